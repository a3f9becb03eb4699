/-
  Plain laws of shares: what Of, Plus, Less, Times, Over and Compare give; the laws of fractions by it. No program in sight.
-/
import Derived.Test.YtjffikiebeneaaaPlain17
namespace Go.Proofs.Ytjffikiebeneaaa

/-- What Of gives: the number of the error, and the share. -/
def ofE (n d : Int) : Int := if n < 0 ∨ d < 1 then 2 else if rdN n d ≤ 2147483648 ∧ rdD n d ≤ 2147483648 then 0 else 3
def ofN (n d : Int) : Int := if ofE n d = 0 then rdN n d else 0
def ofD (n d : Int) : Int := if ofE n d = 0 then rdD n d else 0
theorem ofE_bd (n d : Int) : 0 ≤ ofE n d ∧ ofE n d ≤ 3 := by unfold ofE; repeat' split <;> omega
theorem ofE_zero {n d : Int} (h : ofE n d = 0) : 0 ≤ n ∧ 0 < d ∧ rdN n d ≤ 2147483648 ∧ rdD n d ≤ 2147483648 := by
  unfold ofE at h
  by_cases h1 : n < 0 ∨ d < 1
  · rw [if_pos h1] at h; omega
  · rw [if_neg h1] at h
    by_cases h2 : rdN n d ≤ 2147483648 ∧ rdD n d ≤ 2147483648
    · exact ⟨by omega, by omega, h2.1, h2.2⟩
    · rw [if_neg h2] at h; omega
theorem ofE_ok {n d : Int} (h0 : 0 ≤ n) (h1 : 0 < d) (h2 : rdN n d ≤ 2147483648) (h3 : rdD n d ≤ 2147483648) : ofE n d = 0 := by
  unfold ofE
  rw [if_neg (by omega), if_pos ⟨h2, h3⟩]
theorem of_val {n d : Int} (h : ofE n d = 0) : ofN n d = rdN n d ∧ ofD n d = rdD n d := by
  unfold ofN ofD
  rw [if_pos h, if_pos h]
  exact ⟨rfl, rfl⟩
theorem rightS_mk {n d : Int} (h0 : 0 ≤ n) (h1 : n ≤ 2147483648) (h2 : 1 ≤ d) (h3 : d ≤ 2147483648) (h4 : gcdV n d = 1) : rightS n d = true := decide_eq_true ⟨h0, h1, h2, h3, h4⟩
/-- What Of gives is right, and crosswise the same fraction. -/
theorem of_right {n d : Int} (h : ofE n d = 0) : rightS (ofN n d) (ofD n d) = true ∧ ofN n d * d = n * ofD n d := by
  obtain ⟨h0, h1, h2, h3⟩ := ofE_zero h
  obtain ⟨a0, b0, g, e1, e2, _⟩ := rd_spec h0 h1
  rw [(of_val h).1, (of_val h).2]
  refine ⟨rightS_mk a0 h2 b0 h3 g, ?_⟩
  generalize gcdV n d = k at *
  generalize rdN n d = x at *
  generalize rdD n d = y at *
  rw [e1, e2]
  simp only [Int.mul_comm, Int.mul_left_comm]
/-- A fraction that equals a right share crosswise is that share. -/
theorem of_eq {n d x y : Int} (h0 : 0 ≤ n) (h1 : 0 < d) (hr : rightS x y = true) (h : n * y = x * d) : ofE n d = 0 ∧ ofN n d = x ∧ ofD n d = y := by
  obtain ⟨x0, x1, y0, y1, g⟩ := rightS_of hr
  obtain ⟨a0, b0, g', e1, e2, _⟩ := rd_spec h0 h1
  have hk := gcdV_pos (a := n) h1
  have hu : rdN n d = x ∧ rdD n d = y := by
    refine rd_unique a0 b0 x0 (by omega) g' g ?_
    generalize gcdV n d = k at *
    generalize rdN n d = p at *
    generalize rdD n d = q at *
    have : k * (p * y) = k * (x * q) := by
      rw [← Int.mul_assoc, ← e1, h, e2]
      simp only [Int.mul_left_comm]
    exact Int.eq_of_mul_eq_mul_left (by omega) this
  have he := ofE_ok h0 h1 (by rw [hu.1]; exact x1) (by rw [hu.2]; exact y1)
  exact ⟨he, by rw [(of_val he).1, hu.1], by rw [(of_val he).2, hu.2]⟩
theorem of_id {x y : Int} (hr : rightS x y = true) : ofE x y = 0 ∧ ofN x y = x ∧ ofD x y = y := by
  obtain ⟨x0, x1, y0, y1, g⟩ := rightS_of hr
  exact of_eq x0 (by omega) hr rfl
/-- A common factor does not change what Of gives. -/
theorem of_scale {n d k : Int} (hn : 0 ≤ n) (hd : 0 < d) (hk : 0 < k) : ofE (k * n) (k * d) = ofE n d ∧ ofN (k * n) (k * d) = ofN n d ∧ ofD (k * n) (k * d) = ofD n d := by
  have h := rd_scale hn hd hk
  have h1 : 0 ≤ k * n := Int.mul_nonneg (by omega) hn
  have h2 : 0 < k * d := Int.mul_pos hk hd
  have e : ofE (k * n) (k * d) = ofE n d := by
    unfold ofE
    rw [h.1, h.2, if_neg (show ¬ (k * n < 0 ∨ k * d < 1) by omega), if_neg (show ¬ (n < 0 ∨ d < 1) by omega)]
  unfold ofN ofD
  rw [e, h.1, h.2]
  exact ⟨rfl, rfl, rfl⟩
/-- Equal fractions give the same. -/
theorem of_congr {n d n' d' : Int} (hn : 0 ≤ n) (hd : 0 < d) (hn' : 0 ≤ n') (hd' : 0 < d') (h : n * d' = n' * d) : ofE n d = ofE n' d' ∧ ofN n d = ofN n' d' ∧ ofD n d = ofD n' d' := by
  have h1 := of_scale hn hd hd'
  have h2 := of_scale hn' hd' hd
  have e1 : d' * n = d * n' := by rw [Int.mul_comm d' n, h, Int.mul_comm]
  have e2 : d' * d = d * d' := Int.mul_comm _ _
  rw [e1, e2] at h1
  exact ⟨h1.1.symm.trans h2.1, h1.2.1.symm.trans h2.2.1, h1.2.2.symm.trans h2.2.2⟩
/-- Small numbers fit. -/
theorem of_fits {n d : Int} (h0 : 0 ≤ n) (h1 : 0 < d) (h2 : n ≤ 2147483648) (h3 : d ≤ 2147483648) : ofE n d = 0 ∧ 0 ≤ ofN n d ∧ ofN n d ≤ n ∧ 0 < ofD n d ∧ ofD n d ≤ d := by
  obtain ⟨a0, b0, _, _, _, a1, b1⟩ := rd_spec h0 h1
  have he := ofE_ok h0 h1 (by omega) (by omega)
  rw [(of_val he).1, (of_val he).2]
  exact ⟨he, a0, a1, b0, b1⟩
/-- The errors and values of the operations. -/
def okS (a b c d : Int) : Bool := if rightS a b then rightS c d else false
def plE (a b c d : Int) : Int := if okS a b c d then ofE (a * d + c * b) (b * d) else 2
def plN (a b c d : Int) : Int := if okS a b c d then ofN (a * d + c * b) (b * d) else 0
def plD (a b c d : Int) : Int := if okS a b c d then ofD (a * d + c * b) (b * d) else 0
def leE (a b c d : Int) : Int := if okS a b c d then (if a * d < c * b then 2 else ofE (a * d - c * b) (b * d)) else 2
def leN (a b c d : Int) : Int := if okS a b c d then (if a * d < c * b then 0 else ofN (a * d - c * b) (b * d)) else 0
def leD (a b c d : Int) : Int := if okS a b c d then (if a * d < c * b then 0 else ofD (a * d - c * b) (b * d)) else 0
def tmE (a b c d : Int) : Int := if okS a b c d then ofE (a * c) (b * d) else 2
def tmN (a b c d : Int) : Int := if okS a b c d then ofN (a * c) (b * d) else 0
def tmD (a b c d : Int) : Int := if okS a b c d then ofD (a * c) (b * d) else 0
def ovE (a b c d : Int) : Int := if okS a b c d then (if c = 0 then 6 else ofE (a * d) (b * c)) else 2
def ovN (a b c d : Int) : Int := if okS a b c d then (if c = 0 then 0 else ofN (a * d) (b * c)) else 0
def ovD (a b c d : Int) : Int := if okS a b c d then (if c = 0 then 0 else ofD (a * d) (b * c)) else 0
def cmE (a b c d : Int) : Int := if okS a b c d then 0 else 2
def cmN (a b c d : Int) : Int := if okS a b c d then sgV (a * d) (c * b) else 0
/-- The reference's sum: by the denominators' divisor. -/
theorem ref_plus {a b c d : Int} (h1 : rightS a b = true) (h2 : rightS c d = true) :
    0 ≤ a * (d / gcdV b d) + c * (b / gcdV b d) ∧ 0 < b / gcdV b d * d ∧
    ofE (a * (d / gcdV b d) + c * (b / gcdV b d)) (b / gcdV b d * d) = ofE (a * d + c * b) (b * d) ∧ ofN (a * (d / gcdV b d) + c * (b / gcdV b d)) (b / gcdV b d * d) = ofN (a * d + c * b) (b * d) ∧
    ofD (a * (d / gcdV b d) + c * (b / gcdV b d)) (b / gcdV b d * d) = ofD (a * d + c * b) (b * d) := by
  obtain ⟨a0, a1, b0, b1, _⟩ := rightS_of h1
  obtain ⟨c0, c1, d0, d1, _⟩ := rightS_of h2
  obtain ⟨x, y, x0, y0, e1, e2, _⟩ := gcdV_dvd (a := b) (b := d) (by omega) (by omega)
  have hg := gcdV_pos (a := b) (b := d) (by omega)
  have hx : b / gcdV b d = x := by
    generalize gcdV b d = g at *
    rw [e1, Int.mul_ediv_cancel_left _ (by omega)]
  have hy : d / gcdV b d = y := by
    generalize gcdV b d = g at *
    rw [e2, Int.mul_ediv_cancel_left _ (by omega)]
  rw [hx, hy]
  generalize gcdV b d = g at *
  have hx0 : 0 < x := by
    rcases Int.lt_or_le 0 x with h | h
    · exact h
    · have : x = 0 := by omega
      subst this
      rw [Int.mul_zero] at e1
      omega
  have p0 : 0 ≤ a * y + c * x := by
    have := Int.mul_nonneg a0 y0
    have := Int.mul_nonneg c0 x0
    omega
  have p1 : 0 < x * d := Int.mul_pos hx0 (by omega)
  have hs := of_scale p0 p1 hg
  have q1 : g * (a * y + c * x) = a * d + c * b := by grind
  have q2 : g * (x * d) = b * d := by grind
  rw [q1, q2] at hs
  exact ⟨p0, p1, hs.1.symm, hs.2.1.symm, hs.2.2.symm⟩
/-- Sums of right shares: what they are crosswise. -/
theorem okS_t {a b c d : Int} (h1 : rightS a b = true) (h2 : rightS c d = true) : okS a b c d = true := by unfold okS; rw [h1, h2]; rfl
theorem pl_spec {a b c d : Int} (h1 : rightS a b = true) (h2 : rightS c d = true) : plE a b c d = ofE (a * d + c * b) (b * d) ∧ plN a b c d = ofN (a * d + c * b) (b * d) ∧ plD a b c d = ofD (a * d + c * b) (b * d) := by
  unfold plE plN plD
  rw [okS_t h1 h2]
  exact ⟨rfl, rfl, rfl⟩
theorem tm_spec {a b c d : Int} (h1 : rightS a b = true) (h2 : rightS c d = true) : tmE a b c d = ofE (a * c) (b * d) ∧ tmN a b c d = ofN (a * c) (b * d) ∧ tmD a b c d = ofD (a * c) (b * d) := by
  unfold tmE tmN tmD
  rw [okS_t h1 h2]
  exact ⟨rfl, rfl, rfl⟩
theorem le_spec {a b c d : Int} (h1 : rightS a b = true) (h2 : rightS c d = true) (h : c * b ≤ a * d) : leE a b c d = ofE (a * d - c * b) (b * d) ∧ leN a b c d = ofN (a * d - c * b) (b * d) ∧ leD a b c d = ofD (a * d - c * b) (b * d) := by
  unfold leE leN leD
  rw [okS_t h1 h2, if_pos rfl, if_pos rfl, if_pos rfl, if_neg (by omega), if_neg (by omega), if_neg (by omega)]
  exact ⟨rfl, rfl, rfl⟩
theorem ov_spec {a b c d : Int} (h1 : rightS a b = true) (h2 : rightS c d = true) (h : 0 < c) : ovE a b c d = ofE (a * d) (b * c) ∧ ovN a b c d = ofN (a * d) (b * c) ∧ ovD a b c d = ofD (a * d) (b * c) := by
  unfold ovE ovN ovD
  rw [okS_t h1 h2, if_pos rfl, if_pos rfl, if_pos rfl, if_neg (by omega), if_neg (by omega), if_neg (by omega)]
  exact ⟨rfl, rfl, rfl⟩
/-- A small right share: parts up to m. -/
structure Sm (m x y : Int) : Prop where
  r : rightS x y = true
  n0 : 0 ≤ x
  n1 : x ≤ m
  d0 : 0 < y
  d1 : y ≤ m
theorem mul_le' {a b x y : Int} (a0 : 0 ≤ a) (ax : a ≤ x) (b0 : 0 ≤ b) (bY : b ≤ y) : a * b ≤ x * y := Int.mul_le_mul ax bY b0 (by omega)
/-- The sum of small shares. -/
theorem Sm.plus {m k a b c d : Int} (h : Sm m a b) (g : Sm k c d) (hm : 2 * (m * k) ≤ 2147483648) : plE a b c d = 0 ∧ Sm (2 * (m * k)) (plN a b c d) (plD a b c d) ∧ plN a b c d * (b * d) = (a * d + c * b) * plD a b c d := by
  obtain ⟨e0, e1, e2⟩ := pl_spec h.r g.r
  have x0 := Int.mul_nonneg h.n0 (Int.le_of_lt g.d0)
  have y0 := Int.mul_nonneg g.n0 (Int.le_of_lt h.d0)
  have z0 := Int.mul_pos h.d0 g.d0
  have x1 := mul_le' h.n0 h.n1 (Int.le_of_lt g.d0) g.d1
  have y1 := mul_le' g.n0 g.n1 (Int.le_of_lt h.d0) h.d1
  have z1 := mul_le' (Int.le_of_lt h.d0) h.d1 (Int.le_of_lt g.d0) g.d1
  rw [Int.mul_comm k m] at y1
  have f := of_fits (n := a * d + c * b) (d := b * d) (by omega) z0 (by omega) (by omega)
  have r := of_right f.1
  rw [e0, e1, e2]
  exact ⟨f.1, ⟨r.1, f.2.1, by omega, f.2.2.2.1, by omega⟩, r.2⟩
theorem Sm.times {m k a b c d : Int} (h : Sm m a b) (g : Sm k c d) (hm : m * k ≤ 2147483648) : tmE a b c d = 0 ∧ Sm (m * k) (tmN a b c d) (tmD a b c d) ∧ tmN a b c d * (b * d) = (a * c) * tmD a b c d := by
  obtain ⟨e0, e1, e2⟩ := tm_spec h.r g.r
  have x0 := Int.mul_nonneg h.n0 g.n0
  have z0 := Int.mul_pos h.d0 g.d0
  have x1 := mul_le' h.n0 h.n1 g.n0 g.n1
  have z1 := mul_le' (Int.le_of_lt h.d0) h.d1 (Int.le_of_lt g.d0) g.d1
  have f := of_fits (n := a * c) (d := b * d) x0 z0 (by omega) (by omega)
  have r := of_right f.1
  rw [e0, e1, e2]
  exact ⟨f.1, ⟨r.1, f.2.1, by omega, f.2.2.2.1, by omega⟩, r.2⟩
/-- Two right shares that are crosswise the same are the same. -/
theorem same_of {m k a b c d : Int} (h : Sm m a b) (g : Sm k c d) (e : a * d = c * b) : a = c ∧ b = d :=
  rd_unique h.n0 h.d0 g.n0 g.d0 (rightS_of h.r).2.2.2.2 (rightS_of g.r).2.2.2.2 e
theorem cancel {k x y : Int} (hk : 0 < k) (h : k * x = k * y) : x = y := Int.eq_of_mul_eq_mul_left (by omega) h
theorem plus_comm (a b c d : Int) (h : rightS a b = true) (g : rightS c d = true) : plN a b c d = plN c d a b ∧ plD a b c d = plD c d a b ∧ plE a b c d = plE c d a b := by
  obtain ⟨e0, e1, e2⟩ := pl_spec h g
  obtain ⟨f0, f1, f2⟩ := pl_spec g h
  rw [e0, e1, e2, f0, f1, f2, Int.mul_comm b d, Int.add_comm (a * d)]
  exact ⟨rfl, rfl, rfl⟩
theorem times_comm (a b c d : Int) (h : rightS a b = true) (g : rightS c d = true) : tmN a b c d = tmN c d a b ∧ tmD a b c d = tmD c d a b ∧ tmE a b c d = tmE c d a b := by
  obtain ⟨e0, e1, e2⟩ := tm_spec h g
  obtain ⟨f0, f1, f2⟩ := tm_spec g h
  rw [e0, e1, e2, f0, f1, f2, Int.mul_comm b d, Int.mul_comm a c]
  exact ⟨rfl, rfl, rfl⟩
/-- The laws of fractions for small shares. -/
theorem plus_assoc {m a b c d e f : Int} (h : Sm m a b) (g : Sm m c d) (k : Sm m e f) (h1 : 2 * (m * m) ≤ 2147483648) (h2 : 2 * (2 * (m * m) * m) ≤ 2147483648) :
    plN (plN a b c d) (plD a b c d) e f = plN a b (plN c d e f) (plD c d e f) ∧ plD (plN a b c d) (plD a b c d) e f = plD a b (plN c d e f) (plD c d e f) ∧
    plE (plN a b c d) (plD a b c d) e f = 0 ∧ plE a b (plN c d e f) (plD c d e f) = 0 := by
  obtain ⟨_, s1, q1⟩ := h.plus g h1
  obtain ⟨_, s2, q2⟩ := g.plus k h1
  obtain ⟨e3, s3, q3⟩ := s1.plus k h2
  obtain ⟨e4, s4, q4⟩ := h.plus s2 (by rw [Int.mul_comm m]; exact h2)
  have hb := h.d0
  have hd := g.d0
  have hf := k.d0
  have p1 := s1.d0
  have p2 := s2.d0
  have hu := same_of s3 s4 (by
    have hk : 0 < (b * d * f) * (plD a b c d * plD c d e f) := Int.mul_pos (Int.mul_pos (Int.mul_pos hb hd) hf) (Int.mul_pos p1 p2)
    refine cancel hk ?_
    generalize plN (plN a b c d) (plD a b c d) e f = x at *
    generalize plD (plN a b c d) (plD a b c d) e f = y at *
    generalize plN a b (plN c d e f) (plD c d e f) = z at *
    generalize plD a b (plN c d e f) (plD c d e f) = u at *
    generalize plN a b c d = r at *
    generalize plD a b c d = s at *
    generalize plN c d e f = p at *
    generalize plD c d e f = q at *
    clear s1 s2 s3 s4 e3 e4 h g k h1 h2
    grind)
  exact ⟨hu.1, hu.2, e3, e4⟩
theorem times_assoc {m a b c d e f : Int} (h : Sm m a b) (g : Sm m c d) (k : Sm m e f) (h1 : m * m ≤ 2147483648) (h2 : m * m * m ≤ 2147483648) :
    tmN (tmN a b c d) (tmD a b c d) e f = tmN a b (tmN c d e f) (tmD c d e f) ∧ tmD (tmN a b c d) (tmD a b c d) e f = tmD a b (tmN c d e f) (tmD c d e f) ∧
    tmE (tmN a b c d) (tmD a b c d) e f = 0 ∧ tmE a b (tmN c d e f) (tmD c d e f) = 0 := by
  obtain ⟨_, s1, q1⟩ := h.times g h1
  obtain ⟨_, s2, q2⟩ := g.times k h1
  obtain ⟨e3, s3, q3⟩ := s1.times k h2
  obtain ⟨e4, s4, q4⟩ := h.times s2 (by rw [Int.mul_comm m]; exact h2)
  have hb := h.d0
  have hd := g.d0
  have hf := k.d0
  have p1 := s1.d0
  have p2 := s2.d0
  have hu := same_of s3 s4 (by
    have hk : 0 < (b * d * f) * (tmD a b c d * tmD c d e f) := Int.mul_pos (Int.mul_pos (Int.mul_pos hb hd) hf) (Int.mul_pos p1 p2)
    refine cancel hk ?_
    generalize tmN (tmN a b c d) (tmD a b c d) e f = x at *
    generalize tmD (tmN a b c d) (tmD a b c d) e f = y at *
    generalize tmN a b (tmN c d e f) (tmD c d e f) = z at *
    generalize tmD a b (tmN c d e f) (tmD c d e f) = u at *
    generalize tmN a b c d = r at *
    generalize tmD a b c d = s at *
    generalize tmN c d e f = p at *
    generalize tmD c d e f = q at *
    clear s1 s2 s3 s4 e3 e4 h g k h1 h2
    grind)
  exact ⟨hu.1, hu.2, e3, e4⟩
/-- What was added is taken away again. -/
theorem plus_less {m a b c d : Int} (h : Sm m a b) (g : Sm m c d) (h1 : 2 * (m * m) ≤ 2147483648) :
    leN (plN a b c d) (plD a b c d) c d = a ∧ leD (plN a b c d) (plD a b c d) c d = b ∧ leE (plN a b c d) (plD a b c d) c d = 0 := by
  obtain ⟨_, s1, q1⟩ := h.plus g h1
  have hb := h.d0
  have hd := g.d0
  have p1 := s1.d0
  have ha := h.n0
  have hle : c * plD a b c d ≤ plN a b c d * d := by
    have hk : c * plD a b c d * b ≤ plN a b c d * d * b := by
      have := Int.mul_nonneg (Int.mul_nonneg ha (Int.le_of_lt hd)) (Int.le_of_lt p1)
      have e : plN a b c d * d * b = a * d * plD a b c d + c * plD a b c d * b := by grind
      omega
    exact Int.le_of_mul_le_mul_right hk hb
  obtain ⟨e0, e1, e2⟩ := le_spec s1.r g.r hle
  have hx : (plN a b c d * d - c * plD a b c d) * b = a * (plD a b c d * d) := by grind
  have r := of_eq (n := plN a b c d * d - c * plD a b c d) (d := plD a b c d * d) (by omega) (Int.mul_pos p1 hd) h.r hx
  rw [e0, e1, e2]
  exact ⟨r.2.1, r.2.2, r.1⟩
/-- What was multiplied is divided again. -/
theorem times_over {m a b c d : Int} (h : Sm m a b) (g : Sm m c d) (h1 : m * m ≤ 2147483648) (hc : 0 < c) :
    ovN (tmN a b c d) (tmD a b c d) c d = a ∧ ovD (tmN a b c d) (tmD a b c d) c d = b ∧ ovE (tmN a b c d) (tmD a b c d) c d = 0 := by
  obtain ⟨_, s1, q1⟩ := h.times g h1
  have hb := h.d0
  have hd := g.d0
  have p1 := s1.d0
  obtain ⟨e0, e1, e2⟩ := ov_spec s1.r g.r hc
  have hx : (tmN a b c d * d) * b = a * (tmD a b c d * c) := by grind
  have r := of_eq (n := tmN a b c d * d) (d := tmD a b c d * c) (Int.mul_nonneg s1.n0 (Int.le_of_lt hd)) (Int.mul_pos p1 hc) h.r hx
  rw [e0, e1, e2]
  exact ⟨r.2.1, r.2.2, r.1⟩
/-- A product with a sum. -/
theorem times_plus {m a b c d e f : Int} (h : Sm m a b) (g : Sm m c d) (k : Sm m e f) (h1 : 2 * (m * m) ≤ 2147483648) (h0 : m * m ≤ 2147483648) (h2 : 2 * (m * m) * m ≤ 2147483648) :
    tmN (plN a b c d) (plD a b c d) e f = plN (tmN a b e f) (tmD a b e f) (tmN c d e f) (tmD c d e f) ∧ tmD (plN a b c d) (plD a b c d) e f = plD (tmN a b e f) (tmD a b e f) (tmN c d e f) (tmD c d e f) ∧
    tmE (plN a b c d) (plD a b c d) e f = 0 ∧ plE (tmN a b e f) (tmD a b e f) (tmN c d e f) (tmD c d e f) = 0 := by
  obtain ⟨_, s1, q1⟩ := h.plus g h1
  obtain ⟨_, s2, q2⟩ := h.times k h0
  obtain ⟨_, s3, q3⟩ := g.times k h0
  obtain ⟨e4, s4, q4⟩ := s1.times k h2
  obtain ⟨t0, t1, t2⟩ := pl_spec s2.r s3.r
  have hb := h.d0
  have hd := g.d0
  have hf := k.d0
  have p1 := s1.d0
  have p2 := s2.d0
  have p3 := s3.d0
  have n2 := s2.n0
  have n3 := s3.n0
  have hx : (tmN a b e f * tmD c d e f + tmN c d e f * tmD a b e f) * tmD (plN a b c d) (plD a b c d) e f = tmN (plN a b c d) (plD a b c d) e f * (tmD a b e f * tmD c d e f) := by
    have hk : 0 < (b * d * f) * (f * plD a b c d) := Int.mul_pos (Int.mul_pos (Int.mul_pos hb hd) hf) (Int.mul_pos hf p1)
    refine cancel hk ?_
    generalize tmN (plN a b c d) (plD a b c d) e f = x at *
    generalize tmD (plN a b c d) (plD a b c d) e f = y at *
    generalize plN a b c d = r at *
    generalize plD a b c d = s at *
    generalize tmN a b e f = p at *
    generalize tmD a b e f = q at *
    generalize tmN c d e f = u at *
    generalize tmD c d e f = v at *
    clear s1 s2 s3 s4 e4 t0 t1 t2 h g k h0 h1 h2
    grind
  have r := of_eq (n := tmN a b e f * tmD c d e f + tmN c d e f * tmD a b e f) (d := tmD a b e f * tmD c d e f) (by
    have := Int.mul_nonneg n2 (Int.le_of_lt p3)
    have := Int.mul_nonneg n3 (Int.le_of_lt p2)
    omega) (Int.mul_pos p2 p3) s4.r hx
  rw [t0, t1, t2]
  exact ⟨r.2.1.symm, r.2.2.symm, e4, r.1⟩
end Go.Proofs.Ytjffikiebeneaaa
