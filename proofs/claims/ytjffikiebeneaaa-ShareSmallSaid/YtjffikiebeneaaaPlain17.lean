/-
  Plain laws of fractions: the greatest common divisor, reduced fractions, how they compare; no program in sight.
-/
namespace Go.Proofs.Ytjffikiebeneaaa

/-- The greatest common divisor of two numbers that are not below 0. -/
def gcdV (a b : Int) : Int := ((Nat.gcd a.toNat b.toNat : Nat) : Int)
theorem gcdV_step {a b : Int} (h0 : 0 ≤ a) (h1 : 0 < b) : gcdV b (a % b) = gcdV a b := by
  obtain ⟨x, rfl⟩ := Int.eq_ofNat_of_zero_le h0
  obtain ⟨y, rfl⟩ := Int.eq_ofNat_of_zero_le (Int.le_of_lt h1)
  unfold gcdV
  have e : ((x : Int) % (y : Int)).toNat = x % y := by rw [← Int.natCast_emod]; rfl
  rw [e]
  simp only [Int.toNat_natCast]
  rw [Nat.gcd_comm y (x % y), ← Nat.gcd_rec, Nat.gcd_comm]
theorem gcdV_zero {a : Int} (h0 : 0 ≤ a) : gcdV a 0 = a := by
  unfold gcdV
  simp
  omega
theorem gcdV_comm (a b : Int) : gcdV a b = gcdV b a := by unfold gcdV; rw [Nat.gcd_comm]
theorem gcdV_pos {a b : Int} (h1 : 0 < b) : 0 < gcdV a b := by
  unfold gcdV
  have : 0 < Nat.gcd a.toNat b.toNat := Nat.gcd_pos_of_pos_right _ (by omega)
  omega
theorem gcdV_le {a b : Int} (h1 : 0 < b) : gcdV a b ≤ b := by
  unfold gcdV
  have : Nat.gcd a.toNat b.toNat ≤ b.toNat := Nat.gcd_le_right _ (by omega)
  omega
theorem gcdV_dvd {a b : Int} (h0 : 0 ≤ a) (h1 : 0 ≤ b) : ∃ x y : Int, 0 ≤ x ∧ 0 ≤ y ∧ a = gcdV a b * x ∧ b = gcdV a b * y ∧ (0 < gcdV a b → Nat.gcd x.toNat y.toNat = 1) := by
  obtain ⟨p, rfl⟩ := Int.eq_ofNat_of_zero_le h0
  obtain ⟨q, rfl⟩ := Int.eq_ofNat_of_zero_le h1
  obtain ⟨x, hx⟩ := Nat.gcd_dvd_left p q
  obtain ⟨y, hy⟩ := Nat.gcd_dvd_right p q
  refine ⟨x, y, by omega, by omega, ?_, ?_, fun hg => ?_⟩
  · unfold gcdV
    simp only [Int.toNat_natCast]
    rw [← Int.natCast_mul, ← hx]
  · unfold gcdV
    simp only [Int.toNat_natCast]
    rw [← Int.natCast_mul, ← hy]
  · simp only [Int.toNat_natCast]
    unfold gcdV at hg
    simp only [Int.toNat_natCast] at hg
    have hg' : 0 < Nat.gcd p q := by omega
    have h : Nat.gcd p q * Nat.gcd x y = Nat.gcd p q * 1 := by
      rw [← Nat.gcd_mul_left, ← hx, ← hy, Nat.mul_one]
    exact Nat.eq_of_mul_eq_mul_left hg' h
/-- A fraction, reduced. -/
def rdN (a b : Int) : Int := a / gcdV a b
def rdD (a b : Int) : Int := b / gcdV a b
theorem rd_spec {a b : Int} (h0 : 0 ≤ a) (h1 : 0 < b) : 0 ≤ rdN a b ∧ 0 < rdD a b ∧ gcdV (rdN a b) (rdD a b) = 1 ∧ a = gcdV a b * rdN a b ∧ b = gcdV a b * rdD a b ∧ rdN a b ≤ a ∧ rdD a b ≤ b := by
  obtain ⟨x, y, hx, hy, e1, e2, hc⟩ := gcdV_dvd h0 (Int.le_of_lt h1)
  have hg := gcdV_pos (a := a) h1
  have hN : rdN a b = x := by
    unfold rdN
    generalize gcdV a b = g at *
    rw [e1, Int.mul_ediv_cancel_left _ (by omega)]
  have hD : rdD a b = y := by
    unfold rdD
    generalize gcdV a b = g at *
    rw [e2, Int.mul_ediv_cancel_left _ (by omega)]
  rw [hN, hD]
  have hy' : 0 < y := by
    rcases Int.lt_or_le 0 y with h | h
    · exact h
    · have : y = 0 := by omega
      subst this
      simp at e2
      omega
  refine ⟨hx, hy', ?_, e1, e2, ?_, ?_⟩
  · have := hc hg
    unfold gcdV
    rw [this]
    rfl
  · rw [e1]
    have := Int.mul_le_mul_of_nonneg_right (show (1 : Int) ≤ gcdV a b by omega) hx
    rw [Int.one_mul] at this
    generalize gcdV a b = g at *
    rw [← e1]
    omega
  · have := Int.mul_le_mul_of_nonneg_right (show (1 : Int) ≤ gcdV a b by omega) hy
    rw [Int.one_mul] at this
    omega
/-- Is a share right? -/
def rightS (n d : Int) : Bool := decide (0 ≤ n ∧ n ≤ 2147483648 ∧ 1 ≤ d ∧ d ≤ 2147483648 ∧ gcdV n d = 1)
theorem rightS_of {n d : Int} (h : rightS n d = true) : 0 ≤ n ∧ n ≤ 2147483648 ∧ 1 ≤ d ∧ d ≤ 2147483648 ∧ gcdV n d = 1 := of_decide_eq_true h
/-- Reduced fractions with the same value are the same. -/
theorem rd_unique {a b c d : Int} (ha : 0 ≤ a) (hb : 0 < b) (hc : 0 ≤ c) (hd : 0 < d) (g1 : gcdV a b = 1) (g2 : gcdV c d = 1) (h : a * d = c * b) : a = c ∧ b = d := by
  obtain ⟨p, rfl⟩ := Int.eq_ofNat_of_zero_le ha
  obtain ⟨q, rfl⟩ := Int.eq_ofNat_of_zero_le (Int.le_of_lt hb)
  obtain ⟨r, rfl⟩ := Int.eq_ofNat_of_zero_le hc
  obtain ⟨s, rfl⟩ := Int.eq_ofNat_of_zero_le (Int.le_of_lt hd)
  unfold gcdV at g1 g2
  simp only [Int.toNat_natCast] at g1 g2
  have g1' : Nat.Coprime p q := by unfold Nat.Coprime; omega
  have g2' : Nat.Coprime r s := by unfold Nat.Coprime; omega
  have h' : p * s = r * q := by
    have : ((p * s : Nat) : Int) = ((r * q : Nat) : Int) := by rw [Int.natCast_mul, Int.natCast_mul]; exact h
    exact_mod_cast this
  have d1 : q ∣ s := g1'.symm.dvd_of_dvd_mul_left ⟨r, by rw [h', Nat.mul_comm]⟩
  have d2 : s ∣ q := g2'.symm.dvd_of_dvd_mul_left ⟨p, by rw [← h', Nat.mul_comm]⟩
  have e := Nat.dvd_antisymm d1 d2
  subst e
  have hq : 0 < q := by omega
  have := Nat.eq_of_mul_eq_mul_right hq h'
  subst this
  exact ⟨rfl, rfl⟩
/-- A common factor does not change what is reduced. -/
theorem rd_scale {a b k : Int} (h0 : 0 ≤ a) (h1 : 0 < b) (hk : 0 < k) : rdN (k * a) (k * b) = rdN a b ∧ rdD (k * a) (k * b) = rdD a b := by
  have ka : 0 ≤ k * a := Int.mul_nonneg (Int.le_of_lt hk) h0
  have kb : 0 < k * b := Int.mul_pos hk h1
  obtain ⟨n0, d0, g0, e1, e2, _⟩ := rd_spec h0 h1
  obtain ⟨n1, d1, g1, e3, e4, _⟩ := rd_spec ka kb
  refine rd_unique n1 d1 n0 d0 g1 g0 ?_
  have hg := gcdV_pos (a := a) h1
  have hg' := gcdV_pos (a := k * a) kb
  generalize gcdV a b = g at *
  generalize gcdV (k * a) (k * b) = g' at *
  generalize rdN a b = x at *
  generalize rdD a b = y at *
  generalize rdN (k * a) (k * b) = x' at *
  generalize rdD (k * a) (k * b) = y' at *
  have h : (g' * g * k) * (x' * y) = (g' * g * k) * (x * y') := by
    calc (g' * g * k) * (x' * y) = (g' * x') * (k * (g * y)) := by simp only [Int.mul_comm, Int.mul_left_comm]
      _ = (k * a) * (k * b) := by rw [← e3, ← e2]
      _ = (k * (g * x)) * (g' * y') := by rw [← e1, ← e4]
      _ = (g' * g * k) * (x * y') := by simp only [Int.mul_comm, Int.mul_left_comm]
  exact Int.eq_of_mul_eq_mul_left (by have := Int.mul_pos (Int.mul_pos hg' hg) hk; omega) h
/-- The sign of a comparison. -/
def sgV (a b : Int) : Int := if a < b then -1 else if b < a then 1 else 0
theorem sgV_turn (a b : Int) : sgV b a = - sgV a b := by unfold sgV; repeat' split <;> omega
theorem sgV_flip {a b c d : Int} (h : c = b ∧ d = a) : sgV c d = - sgV a b := by rw [h.1, h.2]; exact sgV_turn a b
/-- Whole parts first. -/
theorem cmp_lt {p q r s : Int} (hq : 0 < q) (hs : 0 < s) (h : p / q < r / s) : p * s < r * q := by
  have e1 := Int.mul_ediv_add_emod p q
  have e2 := Int.mul_ediv_add_emod r s
  have m1 := Int.emod_lt_of_pos p hq
  have m2 := Int.emod_nonneg r (b := s) (by omega)
  generalize p / q = x at *
  generalize r / s = y at *
  generalize p % q = m at *
  generalize r % s = n at *
  have h1 : p < q * y := by
    have : q * (x + 1) ≤ q * y := Int.mul_le_mul_of_nonneg_left (by omega) (by omega)
    rw [Int.mul_add, Int.mul_one] at this
    omega
  have h2 : s * y ≤ r := by omega
  have h3 : p * s < (q * y) * s := Int.mul_lt_mul_of_pos_right h1 hs
  have h4 : (s * y) * q ≤ r * q := Int.mul_le_mul_of_nonneg_right h2 (by omega)
  have h5 : (q * y) * s = (s * y) * q := by simp only [Int.mul_comm, Int.mul_left_comm]
  omega
theorem cmp_rest {p q r s : Int} (h : p / q = r / s) : sgV (p * s) (r * q) = sgV (p % q * s) (r % s * q) := by
  have e1 := Int.mul_ediv_add_emod p q
  have e2 := Int.mul_ediv_add_emod r s
  rw [h] at e1
  generalize r / s = y at *
  generalize p % q = m at *
  generalize r % s = n at *
  have h1 : p * s = (q * y) * s + m * s := by rw [← e1, Int.add_mul]
  have h2 : r * q = (q * y) * s + n * q := by
    rw [← e2, Int.add_mul]
    congr 1
    simp only [Int.mul_comm, Int.mul_left_comm]
  rw [h1, h2]
  unfold sgV
  repeat' split
  all_goals omega
theorem sgV_pos {a b : Int} (h : b < a) : sgV a b = 1 := by unfold sgV; rw [if_neg (by omega), if_pos h]
theorem sgV_neg {a b : Int} (h : a < b) : sgV a b = -1 := by unfold sgV; rw [if_pos h]
theorem sgV_same (a : Int) : sgV a a = 0 := by unfold sgV; rw [if_neg (by omega), if_neg (by omega)]
/-- A sum of two right shares' crosswise products fits. -/
theorem cross_fits {a b c d : Int} (h1 : rightS a b = true) (h2 : rightS c d = true) : 0 ≤ a * d + c * b ∧ a * d + c * b ≤ 9223372036854775807 ∧ 0 < b * d ∧ b * d ≤ 4611686018427387904 ∧ 0 ≤ a * d ∧ a * d ≤ 4611686018427387904 ∧ 0 ≤ c * b ∧ c * b ≤ 4611686018427387904 := by
  obtain ⟨a0, a1, b0, b1, g1⟩ := rightS_of h1
  obtain ⟨c0, c1, d0, d1, g2⟩ := rightS_of h2
  have x0 : 0 ≤ a * d := Int.mul_nonneg a0 (by omega)
  have x1 : a * d ≤ 2147483648 * 2147483648 := Int.mul_le_mul a1 d1 (by omega) (by omega)
  have y0 : 0 ≤ c * b := Int.mul_nonneg c0 (by omega)
  have y1 : c * b ≤ 2147483648 * 2147483648 := Int.mul_le_mul c1 b1 (by omega) (by omega)
  have z0 : 0 < b * d := Int.mul_pos (by omega) (by omega)
  have z1 : b * d ≤ 2147483648 * 2147483648 := Int.mul_le_mul b1 d1 (by omega) (by omega)
  refine ⟨by omega, ?_, z0, by omega, x0, by omega, y0, by omega⟩
  rcases Int.lt_or_le a 2147483648 with ha | ha
  · have : a * d ≤ 2147483647 * 2147483648 := Int.mul_le_mul (by omega) d1 (by omega) (by omega)
    omega
  · rcases Int.lt_or_le b 2147483648 with hb | hb
    · have : c * b ≤ 2147483648 * 2147483647 := Int.mul_le_mul c1 (by omega) (by omega) (by omega)
      omega
    · have e1 : a = 2147483648 := by omega
      have e2 : b = 2147483648 := by omega
      subst e1 e2
      exact absurd g1 (by decide)
end Go.Proofs.Ytjffikiebeneaaa
