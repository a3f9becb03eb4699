/-
  Plain laws of shares: order, differences, parts of a whole. No program in sight.
-/
import Derived.Test.YtjffikiebeneaaaFrac17
namespace Go.Proofs.Ytjffikiebeneaaa

theorem sgV_scale {k a b : Int} (hk : 0 < k) : sgV (k * a) (k * b) = sgV a b := by
  unfold sgV
  by_cases h1 : a < b
  · rw [if_pos h1, if_pos (Int.mul_lt_mul_of_pos_left h1 hk)]
  · by_cases h2 : b < a
    · have h3 := Int.mul_lt_mul_of_pos_left h2 hk
      rw [if_neg h1, if_pos h2, if_neg (by omega), if_pos h3]
    · have e : a = b := by omega
      subst e
      rw [if_neg h1, if_neg h2, if_neg (by omega), if_neg (by omega)]
theorem sgV_bd (a b : Int) : -1 ≤ sgV a b ∧ sgV a b ≤ 1 := by unfold sgV; (repeat' split) <;> omega
theorem sgV_eq {a b : Int} : sgV a b = 0 ↔ a = b := by unfold sgV; (repeat' split) <;> omega
theorem sgV_lt {a b : Int} : sgV a b < 0 ↔ a < b := by unfold sgV; (repeat' split) <;> omega
theorem sgV_gt {a b : Int} : 0 < sgV a b ↔ b < a := by unfold sgV; (repeat' split) <;> omega
/-- Comparing by other fractions with the same values. -/
theorem sgV_same_by {a b c d K L : Int} (hK : 0 < K) (hL : 0 < L) (h1 : K * a = L * c) (h2 : K * b = L * d) : sgV a b = sgV c d := by
  rw [← sgV_scale hK (a := a), h1, h2, sgV_scale hL]
theorem cm_zero {m k a b c d : Int} (h : Sm m a b) (g : Sm k c d) : sgV (a * d) (c * b) = 0 ↔ (a = c ∧ b = d) := by
  rw [sgV_eq]
  constructor
  · exact fun e => same_of h g e
  · rintro ⟨rfl, rfl⟩
    rfl
/-- The difference, added again. -/
theorem less_plus {m a b c d : Int} (h : Sm m a b) (g : Sm m c d) (hm : m * m ≤ 2147483648) (hle : c * b ≤ a * d) :
    leE a b c d = 0 ∧ plN c d (leN a b c d) (leD a b c d) = a ∧ plD c d (leN a b c d) (leD a b c d) = b ∧ plE c d (leN a b c d) (leD a b c d) = 0 := by
  obtain ⟨e0, e1, e2⟩ := le_spec h.r g.r hle
  have hb := h.d0
  have hd := g.d0
  have z0 := Int.mul_pos hb hd
  have x1 := mul_le' h.n0 h.n1 (Int.le_of_lt hd) g.d1
  have y0 := Int.mul_nonneg g.n0 (Int.le_of_lt hb)
  have z1 := mul_le' (Int.le_of_lt hb) h.d1 (Int.le_of_lt hd) g.d1
  have f := of_fits (n := a * d - c * b) (d := b * d) (by omega) z0 (by omega) (by omega)
  have r := of_right f.1
  rw [← e1, ← e2] at r
  have rr : rightS (leN a b c d) (leD a b c d) = true := r.1
  have n0 : 0 ≤ leN a b c d := by rw [e1]; exact f.2.1
  have p0 : 0 < leD a b c d := by rw [e2]; exact f.2.2.2.1
  obtain ⟨t0, t1, t2⟩ := pl_spec g.r rr
  have q := r.2
  have hx : (c * leD a b c d + leN a b c d * d) * b = a * (d * leD a b c d) := by
    refine cancel (k := d) hd ?_
    generalize leN a b c d = x at *
    generalize leD a b c d = y at *
    clear h g t0 t1 t2 e0 e1 e2 f r rr
    grind
  have w0 := Int.mul_nonneg g.n0 (Int.le_of_lt p0)
  have w1 := Int.mul_nonneg n0 (Int.le_of_lt hd)
  have u := of_eq (n := c * leD a b c d + leN a b c d * d) (d := d * leD a b c d) (by omega) (Int.mul_pos hd p0) h.r hx
  rw [t0, t1, t2, e0]
  exact ⟨f.1, u.2.1, u.2.2, u.1⟩
theorem less_not {a b c d : Int} (h : rightS a b = true) (g : rightS c d = true) (hlt : a * d < c * b) : leE a b c d = 2 := by
  unfold leE
  rw [okS_t h g, if_pos rfl, if_pos hlt]
/-- What is multiplied alike keeps its order. -/
theorem cm_times {m k a b c d e f : Int} (h : Sm m a b) (g : Sm m c d) (s : Sm k e f) (hm : m * k ≤ 2147483648) (he : 0 < e) :
    tmE a b e f = 0 ∧ tmE c d e f = 0 ∧ sgV (tmN a b e f * tmD c d e f) (tmN c d e f * tmD a b e f) = sgV (a * d) (c * b) := by
  obtain ⟨e1, s1, q1⟩ := h.times s hm
  obtain ⟨e2, s2, q2⟩ := g.times s hm
  have hb := h.d0
  have hd := g.d0
  have hf := s.d0
  have p1 := s1.d0
  have p2 := s2.d0
  refine ⟨e1, e2, sgV_same_by (K := (b * f) * (d * f)) (L := (e * f) * (tmD a b e f * tmD c d e f)) (Int.mul_pos (Int.mul_pos hb hf) (Int.mul_pos hd hf)) (Int.mul_pos (Int.mul_pos he hf) (Int.mul_pos p1 p2)) ?_ ?_⟩
  · clear s1 s2 e1 e2 h g s
    generalize tmN a b e f = x at *
    generalize tmD a b e f = y at *
    generalize tmN c d e f = z at *
    generalize tmD c d e f = u at *
    grind
  · clear s1 s2 e1 e2 h g s
    generalize tmN a b e f = x at *
    generalize tmD a b e f = y at *
    generalize tmN c d e f = z at *
    generalize tmD c d e f = u at *
    grind
/-- What has the same added keeps its order. -/
theorem cm_plus {m k a b c d e f : Int} (h : Sm m a b) (g : Sm m c d) (s : Sm k e f) (hm : 2 * (m * k) ≤ 2147483648) :
    plE a b e f = 0 ∧ plE c d e f = 0 ∧ sgV (plN a b e f * plD c d e f) (plN c d e f * plD a b e f) = sgV (a * d) (c * b) := by
  obtain ⟨e1, s1, q1⟩ := h.plus s hm
  obtain ⟨e2, s2, q2⟩ := g.plus s hm
  have hb := h.d0
  have hd := g.d0
  have hf := s.d0
  have p1 := s1.d0
  have p2 := s2.d0
  refine ⟨e1, e2, ?_⟩
  have hA : (b * f) * (d * f) * (plN a b e f * plD c d e f) = (plD a b e f * plD c d e f * f * f) * (a * d) + (plD a b e f * plD c d e f * f * b * e * d) := by
    clear s1 s2 e1 e2 h g s
    generalize plN a b e f = x at *
    generalize plD a b e f = y at *
    generalize plN c d e f = z at *
    generalize plD c d e f = u at *
    grind
  have hB : (b * f) * (d * f) * (plN c d e f * plD a b e f) = (plD a b e f * plD c d e f * f * f) * (c * b) + (plD a b e f * plD c d e f * f * b * e * d) := by
    clear s1 s2 e1 e2 h g s
    generalize plN a b e f = x at *
    generalize plD a b e f = y at *
    generalize plN c d e f = z at *
    generalize plD c d e f = u at *
    grind
  have hK : 0 < (b * f) * (d * f) := Int.mul_pos (Int.mul_pos hb hf) (Int.mul_pos hd hf)
  have hL : 0 < plD a b e f * plD c d e f * f * f := Int.mul_pos (Int.mul_pos (Int.mul_pos p1 p2) hf) hf
  rw [← sgV_scale hK, hA, hB]
  generalize plD a b e f * plD c d e f * f * b * e * d = t
  rw [← sgV_scale hL (a := a * d)]
  unfold sgV
  repeat' split
  all_goals omega
/-- Parts of one whole: sums, quotients, order. -/
theorem of_small {n T m : Int} (h0 : 0 ≤ n) (h1 : 0 < T) (h2 : n ≤ m) (h3 : T ≤ m) (hm : m ≤ 2147483648) : ofE n T = 0 ∧ Sm m (ofN n T) (ofD n T) ∧ ofN n T * T = n * ofD n T := by
  have f := of_fits h0 h1 (by omega) (by omega)
  have r := of_right f.1
  exact ⟨f.1, ⟨r.1, f.2.1, by omega, f.2.2.2.1, by omega⟩, r.2⟩
theorem parts_plus {u w T m : Int} (hu : 0 ≤ u) (hw : 0 ≤ w) (hT : 0 < T) (h1 : u + w ≤ m) (h2 : T ≤ m) (hm : m ≤ 2147483648) :
    plN (ofN u T) (ofD u T) (ofN w T) (ofD w T) = ofN (u + w) T ∧ plD (ofN u T) (ofD u T) (ofN w T) (ofD w T) = ofD (u + w) T ∧ plE (ofN u T) (ofD u T) (ofN w T) (ofD w T) = 0 := by
  obtain ⟨_, s1, q1⟩ := of_small hu hT (show u ≤ m by omega) h2 hm
  obtain ⟨_, s2, q2⟩ := of_small hw hT (show w ≤ m by omega) h2 hm
  obtain ⟨_, s3, q3⟩ := of_small (show 0 ≤ u + w by omega) hT h1 h2 hm
  obtain ⟨t0, t1, t2⟩ := pl_spec s1.r s2.r
  have p1 := s1.d0
  have p2 := s2.d0
  have n1 := Int.mul_nonneg s1.n0 (Int.le_of_lt p2)
  have n2 := Int.mul_nonneg s2.n0 (Int.le_of_lt p1)
  have hx : (ofN u T * ofD w T + ofN w T * ofD u T) * ofD (u + w) T = ofN (u + w) T * (ofD u T * ofD w T) := by
    refine cancel (k := T) hT ?_
    generalize ofN (u + w) T = x at *
    generalize ofD (u + w) T = y at *
    generalize ofN u T = a at *
    generalize ofD u T = b at *
    generalize ofN w T = c at *
    generalize ofD w T = d at *
    clear s1 s2 s3 t0 t1 t2 n1 n2
    grind
  have r := of_eq (n := ofN u T * ofD w T + ofN w T * ofD u T) (d := ofD u T * ofD w T) (by omega) (Int.mul_pos p1 p2) s3.r hx
  rw [t0, t1, t2]
  exact ⟨r.2.1, r.2.2, r.1⟩
theorem parts_over {u w T m : Int} (hu : 0 ≤ u) (hw : 0 < w) (hT : 0 < T) (h1 : u ≤ m) (h3 : w ≤ m) (h2 : T ≤ m) (hm : m ≤ 2147483648) :
    ovN (ofN u T) (ofD u T) (ofN w T) (ofD w T) = ofN u w ∧ ovD (ofN u T) (ofD u T) (ofN w T) (ofD w T) = ofD u w ∧ ovE (ofN u T) (ofD u T) (ofN w T) (ofD w T) = 0 := by
  obtain ⟨_, s1, q1⟩ := of_small hu hT h1 h2 hm
  obtain ⟨_, s2, q2⟩ := of_small (Int.le_of_lt hw) hT h3 h2 hm
  obtain ⟨_, s3, q3⟩ := of_small hu hw h1 h3 hm
  have p1 := s1.d0
  have p2 := s2.d0
  have hpos : 0 < ofN w T := by
    rcases Int.lt_or_le 0 (ofN w T) with h | h
    · exact h
    · have e : ofN w T = 0 := by have := s2.n0; omega
      rw [e, Int.zero_mul] at q2
      have := Int.mul_pos hw p2
      omega
  obtain ⟨t0, t1, t2⟩ := ov_spec s1.r s2.r hpos
  have hx : (ofN u T * ofD w T) * ofD u w = ofN u w * (ofD u T * ofN w T) := by
    refine cancel (k := w * T) (Int.mul_pos hw hT) ?_
    generalize ofN u w = x at *
    generalize ofD u w = y at *
    generalize ofN u T = a at *
    generalize ofD u T = b at *
    generalize ofN w T = c at *
    generalize ofD w T = d at *
    clear s1 s2 s3 t0 t1 t2
    grind
  have r := of_eq (n := ofN u T * ofD w T) (d := ofD u T * ofN w T) (Int.mul_nonneg s1.n0 (Int.le_of_lt p2)) (Int.mul_pos p1 hpos) s3.r hx
  rw [t0, t1, t2]
  exact ⟨r.2.1, r.2.2, r.1⟩
theorem parts_cmp {u w T m : Int} (hu : 0 ≤ u) (hw : 0 ≤ w) (hT : 0 < T) (h1 : u ≤ m) (h3 : w ≤ m) (h2 : T ≤ m) (hm : m ≤ 2147483648) :
    sgV (ofN u T * ofD w T) (ofN w T * ofD u T) = sgV u w := by
  obtain ⟨_, s1, q1⟩ := of_small hu hT h1 h2 hm
  obtain ⟨_, s2, q2⟩ := of_small hw hT h3 h2 hm
  have p1 := s1.d0
  have p2 := s2.d0
  refine sgV_same_by (K := T) (L := ofD u T * ofD w T) hT (Int.mul_pos p1 p2) ?_ ?_
  · clear s1 s2
    generalize ofN u T = a at *
    generalize ofD u T = b at *
    generalize ofN w T = c at *
    generalize ofD w T = d at *
    grind
  · clear s1 s2
    generalize ofN u T = a at *
    generalize ofD u T = b at *
    generalize ofN w T = c at *
    generalize ofD w T = d at *
    grind
/-- A part of a part. -/
theorem parts_times {u V T m : Int} (hu : 0 ≤ u) (hV : 0 < V) (hT : 0 < T) (h1 : u ≤ m) (h3 : V ≤ m) (h2 : T ≤ m) (hm : m * m ≤ 2147483648) (hm1 : m ≤ 2147483648) :
    tmN (ofN u V) (ofD u V) (ofN V T) (ofD V T) = ofN u T ∧ tmD (ofN u V) (ofD u V) (ofN V T) (ofD V T) = ofD u T ∧ tmE (ofN u V) (ofD u V) (ofN V T) (ofD V T) = 0 := by
  obtain ⟨_, s1, q1⟩ := of_small hu hV h1 h3 hm1
  obtain ⟨_, s2, q2⟩ := of_small (Int.le_of_lt hV) hT h3 h2 hm1
  obtain ⟨_, s3, q3⟩ := of_small hu hT h1 h2 hm1
  obtain ⟨e, s4, q4⟩ := s1.times s2 hm
  have p1 := s1.d0
  have p2 := s2.d0
  have hu' := same_of s4 s3 (by
    refine cancel (k := V * T * (ofD u V * ofD V T)) (Int.mul_pos (Int.mul_pos hV hT) (Int.mul_pos p1 p2)) ?_
    generalize tmN (ofN u V) (ofD u V) (ofN V T) (ofD V T) = x at *
    generalize tmD (ofN u V) (ofD u V) (ofN V T) (ofD V T) = y at *
    generalize ofN u V = a at *
    generalize ofD u V = b at *
    generalize ofN V T = c at *
    generalize ofD V T = d at *
    generalize ofN u T = p at *
    generalize ofD u T = q at *
    clear s1 s2 s3 s4 e
    grind)
  exact ⟨hu'.1, hu'.2, e⟩
/-- A scaled part: its whole and what is left are those of the weight. -/
theorem parts_scale {w T q : Int} (hw : 0 ≤ w) (hT : 0 < T) :
    q * rdN w T / rdD w T = q * w / T ∧ ofE (q * rdN w T % rdD w T) (rdD w T) = ofE (q * w % T) T ∧ ofN (q * rdN w T % rdD w T) (rdD w T) = ofN (q * w % T) T ∧ ofD (q * rdN w T % rdD w T) (rdD w T) = ofD (q * w % T) T := by
  obtain ⟨n0, d0, _, e1, e2, _⟩ := rd_spec hw hT
  have hg := gcdV_pos (a := w) hT
  have hD : 0 < rdD w T := d0
  have r0 := Int.emod_nonneg (q * rdN w T) (b := rdD w T) (by omega)
  generalize gcdV w T = g at *
  generalize rdN w T = x at *
  generalize rdD w T = y at *
  have k1 : q * w = g * (q * x) := by rw [e1]; simp only [Int.mul_left_comm]
  have k2 : q * w / T = q * x / y := by rw [k1, e2, Int.mul_ediv_mul_of_pos _ _ hg]
  have k3 : q * w % T = g * (q * x % y) := by rw [k1, e2, Int.mul_emod_mul_of_pos _ _ hg]
  rw [k2, k3]
  have h := of_scale (n := q * x % y) (d := y) (k := g) r0 hD hg
  rw [← e2] at h
  exact ⟨rfl, h.1.symm, h.2.1.symm, h.2.2.symm⟩
theorem of_whole {q T : Int} (hq : 0 ≤ q) (hq2 : q ≤ 2147483648) (hT : 0 < T) : ofE (q * T) T = 0 ∧ ofN (q * T) T = q ∧ ofD (q * T) T = 1 := by
  refine of_eq (Int.mul_nonneg hq (Int.le_of_lt hT)) hT (rightS_mk hq hq2 (by decide) (by decide) ?_) (by rw [Int.mul_one])
  unfold gcdV
  simp
end Go.Proofs.Ytjffikiebeneaaa
