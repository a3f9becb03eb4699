/-
  The contracts of package weight's functions (but Total), by values: what each returns, as functions on integers.
-/
import Derived.Test.YtgfmgfblmfacgaaDoorProg
import Derived.Test.YtgfmgfblmfacgaaDoorBase
namespace Go.Proofs.YtgfmgfblmfacgaaDoor
open Go.RowKit

/-- Are ticks and a weight in their ranges? -/
def okB (d w : Int) : Bool := decide (0 ≤ d ∧ d ≤ 4294967295 ∧ 1 ≤ w ∧ w ≤ 65536)
def scV (d w : Int) : Int := if okB d w then d * 1048576 / w else 0
def scR (d w : Int) : Int := if okB d w then d * 1048576 % w else 0
def scE (d w : Int) : Int := if okB d w then 0 else 2

theorem okB_true {d w : Int} (h1 : 0 ≤ d) (h2 : d ≤ 4294967295) (h3 : 1 ≤ w) (h4 : w ≤ 65536) : okB d w = true := by
  unfold okB; exact decide_eq_true ⟨h1, h2, h3, h4⟩
theorem okB_false {d w : Int} (h : d < 0 ∨ 4294967295 < d ∨ w < 1 ∨ 65536 < w) : okB d w = false := by
  unfold okB; exact decide_eq_false (by omega)
theorem okB_cases (d w : Int) : (0 ≤ d ∧ d ≤ 4294967295 ∧ 1 ≤ w ∧ w ≤ 65536) ∨ (d < 0 ∨ 4294967295 < d ∨ w < 1 ∨ 65536 < w) := by omega


set_option maxHeartbeats 400000 in
theorem scaled_yes (d w : Int) (W : World) (h1 : 0 ≤ d) (h2 : d ≤ 4294967295) (h3 : 1 ≤ w) (h4 : w ≤ 65536) :
    Calls Tryd.prog 16 #[.int .i64 d, .int .i64 w] W fun e w' => e = .returned (.tuple #[.int .i64 (d * 1048576 / w), .int .i64 (d * 1048576 % w), .int .i64 0]) ∧ ∃ n, w' = W.drewN n := by
  go_enter Tryd.func16, Tryd.ntmps16
  go_wp2
  go_quiet (fail)
  go_wp2
  go_ret3
  exact ⟨rfl, _, rfl⟩

set_option maxHeartbeats 400000 in
theorem scaled_no (d w : Int) (W : World) (h : d < 0 ∨ 4294967295 < d ∨ w < 1 ∨ 65536 < w) :
    Calls Tryd.prog 16 #[.int .i64 d, .int .i64 w] W fun e w' => e = .returned (.tuple #[.int .i64 0, .int .i64 0, .int .i64 2]) ∧ ∃ n, w' = W.drewN n := by
  by_cases h0 : d < 0
  · go_enter Tryd.func16, Tryd.ntmps16
    go_wp2
    go_ret3
    exact ⟨rfl, 0, rfl⟩
  by_cases h1 : 4294967295 < d
  · have h2 : 0 ≤ d := by omega
    go_enter Tryd.func16, Tryd.ntmps16
    go_wp2
    go_ret3
    exact ⟨rfl, 0, rfl⟩
  have h2 : 0 ≤ d := by omega
  have h3 : d ≤ 4294967295 := by omega
  by_cases h4 : w < 1
  · clear h h0 h1
    go_enter Tryd.func16, Tryd.ntmps16
    go_wp2
    go_ret3
    exact ⟨rfl, 0, rfl⟩
  · have h5 : 1 ≤ w := by omega
    have h6 : decide (w ≤ 65536) = false := decide_eq_false (by omega)
    clear h h0 h1 h4
    go_enter Tryd.func16, Tryd.ntmps16
    go_wp2
    go_ret3
    exact ⟨rfl, 0, rfl⟩

theorem scaled_any (d w : Int) (W : World) :
    Calls Tryd.prog 16 #[.int .i64 d, .int .i64 w] W fun e w' => e = .returned (.tuple #[.int .i64 (scV d w), .int .i64 (scR d w), .int .i64 (scE d w)]) ∧ ∃ n, w' = W.drewN n := by
  rcases okB_cases d w with ⟨h1, h2, h3, h4⟩ | h
  · refine (scaled_yes d w W h1 h2 h3 h4).mono fun e w' ⟨he, hw⟩ => ⟨he.trans (ret3 ?_ ?_ ?_), hw⟩ <;> simp [scV, scR, scE, okB_true h1 h2 h3 h4]
  · refine (scaled_no d w W h).mono fun e w' ⟨he, hw⟩ => ⟨he.trans (ret3 ?_ ?_ ?_), hw⟩ <;> simp [scV, scR, scE, okB_false h]

/-- Weights. -/
def weB (w : Int) : Bool := decide (1 ≤ w ∧ w ≤ 65536)
def inV (w : Int) : Int := if weB w then 4294967296 / w else 0
def weE (w : Int) : Int := if weB w then 0 else 2
theorem weB_true {w : Int} (h3 : 1 ≤ w) (h4 : w ≤ 65536) : weB w = true := by
  unfold weB; exact decide_eq_true ⟨h3, h4⟩
theorem weB_false {w : Int} (h : w < 1 ∨ 65536 < w) : weB w = false := by
  unfold weB; exact decide_eq_false (by omega)

set_option maxHeartbeats 400000 in
theorem inverse_yes (w : Int) (W : World) (h3 : 1 ≤ w) (h4 : w ≤ 65536) :
    Calls Tryd.prog 21 #[.int .i64 w] W fun e w' => e = .returned (.tuple #[.int .i64 (4294967296 / w), .int .i64 0]) ∧ W = w' := by
  go_enter Tryd.func21, Tryd.ntmps21
  go_wp2
  go_ret2
  exact ⟨rfl, rfl⟩

set_option maxHeartbeats 400000 in
theorem inverse_any (w : Int) (W : World) :
    Calls Tryd.prog 21 #[.int .i64 w] W fun e w' => e = .returned (.tuple #[.int .i64 (inV w), .int .i64 (weE w)]) ∧ W = w' := by
  by_cases h3 : w < 1
  · have hb := weB_false (w := w) (Or.inl h3)
    refine Calls.mono (R := fun e w' => e = .returned (.tuple #[.int .i64 0, .int .i64 2]) ∧ W = w') ?_ fun e w' ⟨he, hw⟩ => ⟨he.trans (ret2 ?_ ?_), hw⟩
    · clear hb
      go_enter Tryd.func21, Tryd.ntmps21
      go_wp2
      go_ret2
      exact ⟨rfl, rfl⟩
    · simp [inV, hb]
    · simp [weE, hb]
  by_cases h4 : 65536 < w
  · have hb := weB_false (w := w) (Or.inr h4)
    refine Calls.mono (R := fun e w' => e = .returned (.tuple #[.int .i64 0, .int .i64 2]) ∧ W = w') ?_ fun e w' ⟨he, hw⟩ => ⟨he.trans (ret2 ?_ ?_), hw⟩
    · have h5 : 1 ≤ w := by omega
      have h6 : decide (w ≤ 65536) = false := decide_eq_false (by omega)
      clear hb h3 h4
      go_enter Tryd.func21, Tryd.ntmps21
      go_wp2
      go_ret2
      exact ⟨rfl, rfl⟩
    · simp [inV, hb]
    · simp [weE, hb]
  · refine (inverse_yes w W (by omega) (by omega)).mono fun e w' ⟨he, hw⟩ => ⟨he.trans (ret2 ?_ ?_), hw⟩ <;> simp [inV, weE, weB_true (w := w) (by omega) (by omega)]

/-- Ticks. -/
def tiA (v rest w : Int) : Bool := decide (1 ≤ w ∧ w ≤ 65536 ∧ 0 ≤ v ∧ v ≤ 4503599626321920 ∧ 0 ≤ rest ∧ rest ≤ w - 1)
def tiB (v rest w : Int) : Bool := decide (v * w + rest ≤ 4503599627370495)
def tiV (v rest w : Int) : Int := if tiA v rest w && tiB v rest w then (v * w + rest) / 1048576 else 0
def tiR (v rest w : Int) : Int := if tiA v rest w && tiB v rest w then (v * w + rest) % 1048576 else 0
def tiE (v rest w : Int) : Int := if tiA v rest w then if tiB v rest w then 0 else 3 else 2

theorem div_test {v rest w : Int} (h1 : 1 ≤ w) : (4503599627370495 - rest) / w < v ↔ ¬ v * w + rest ≤ 4503599627370495 := by
  rw [Int.ediv_lt_iff_lt_mul (by omega)]
  generalize v * w = q
  omega

set_option maxHeartbeats 400000 in
theorem ticks_yes (v rest w : Int) (W : World) (h1 : 1 ≤ w) (h2 : w ≤ 65536) (h3 : 0 ≤ v) (h4 : v ≤ 4503599626321920) (h5 : 0 ≤ rest) (h6 : rest ≤ w - 1) (h7 : v * w + rest ≤ 4503599627370495) :
    Calls Tryd.prog 17 #[.int .i64 v, .int .i64 rest, .int .i64 w] W fun e w' => e = .returned (.tuple #[.int .i64 ((v * w + rest) / 1048576), .int .i64 ((v * w + rest) % 1048576), .int .i64 0]) ∧ ∃ n, w' = W.drewN n := by
  have h8 : ¬ (4503599627370495 - rest) / w < v := fun h => (div_test h1).1 h h7
  have h9 : 0 ≤ v * w := Int.mul_nonneg h3 (by omega)
  have h10 : v * w ≤ 4503599627370495 := by omega
  go_enter Tryd.func17, Tryd.ntmps17
  go_wp2
  go_ret3
  exact ⟨rfl, 0, rfl⟩

theorem tiA_true {v rest w : Int} (h1 : 1 ≤ w) (h2 : w ≤ 65536) (h3 : 0 ≤ v) (h4 : v ≤ 4503599626321920) (h5 : 0 ≤ rest) (h6 : rest ≤ w - 1) : tiA v rest w = true := by
  unfold tiA; exact decide_eq_true ⟨h1, h2, h3, h4, h5, h6⟩
theorem tiA_false {v rest w : Int} (h : w < 1 ∨ 65536 < w ∨ v < 0 ∨ 4503599626321920 < v ∨ rest < 0 ∨ w - 1 < rest) : tiA v rest w = false := by
  unfold tiA; exact decide_eq_false (by omega)
theorem tiB_true {v rest w : Int} (h : v * w + rest ≤ 4503599627370495) : tiB v rest w = true := by unfold tiB; exact decide_eq_true h
theorem tiB_false {v rest w : Int} (h : ¬ v * w + rest ≤ 4503599627370495) : tiB v rest w = false := by unfold tiB; exact decide_eq_false h

set_option maxHeartbeats 400000 in
theorem ticks_long (v rest w : Int) (W : World) (h1 : 1 ≤ w) (h2 : w ≤ 65536) (h3 : 0 ≤ v) (h4 : v ≤ 4503599626321920) (h5 : 0 ≤ rest) (h6 : rest ≤ w - 1) (h7 : ¬ v * w + rest ≤ 4503599627370495) :
    Calls Tryd.prog 17 #[.int .i64 v, .int .i64 rest, .int .i64 w] W fun e w' => e = .returned (.tuple #[.int .i64 0, .int .i64 0, .int .i64 3]) ∧ ∃ n, w' = W.drewN n := by
  have h8 : (4503599627370495 - rest) / w < v := (div_test h1).2 h7
  clear h7
  go_enter Tryd.func17, Tryd.ntmps17
  go_wp2
  go_ret3
  exact ⟨rfl, 0, rfl⟩

set_option maxHeartbeats 1000000 in
theorem ticks_bad (v rest w : Int) (W : World) (h : w < 1 ∨ 65536 < w ∨ v < 0 ∨ 4503599626321920 < v ∨ rest < 0 ∨ w - 1 < rest) :
    Calls Tryd.prog 17 #[.int .i64 v, .int .i64 rest, .int .i64 w] W fun e w' => e = .returned (.tuple #[.int .i64 0, .int .i64 0, .int .i64 2]) ∧ ∃ n, w' = W.drewN n := by
  by_cases a1 : w < 1
  · clear h
    go_enter Tryd.func17, Tryd.ntmps17
    go_wp2
    go_ret3
    exact ⟨rfl, 0, rfl⟩
  have b1 : 1 ≤ w := by omega
  by_cases a2 : 65536 < w
  · have h6 : decide (w ≤ 65536) = false := decide_eq_false (by omega)
    clear h a1 a2
    go_enter Tryd.func17, Tryd.ntmps17
    go_wp2
    go_ret3
    exact ⟨rfl, 0, rfl⟩
  have b2 : w ≤ 65536 := by omega
  by_cases a3 : v < 0
  · clear h a1 a2
    go_enter Tryd.func17, Tryd.ntmps17
    go_wp2
    go_ret3
    exact ⟨rfl, 0, rfl⟩
  have b3 : 0 ≤ v := by omega
  by_cases a4 : 4503599626321920 < v
  · have h6 : decide (v ≤ 4503599626321920) = false := decide_eq_false (by omega)
    clear h a1 a2 a3 a4
    go_enter Tryd.func17, Tryd.ntmps17
    go_wp2
    go_ret3
    exact ⟨rfl, 0, rfl⟩
  have b4 : v ≤ 4503599626321920 := by omega
  by_cases a5 : rest < 0
  · clear h a1 a2 a3 a4
    go_enter Tryd.func17, Tryd.ntmps17
    go_wp2
    go_ret3
    exact ⟨rfl, 0, rfl⟩
  have b5 : 0 ≤ rest := by omega
  have h6 : decide (rest ≤ w - 1) = false := decide_eq_false (by omega)
  clear h a1 a2 a3 a4 a5
  go_enter Tryd.func17, Tryd.ntmps17
  go_wp2
  go_ret3
  exact ⟨rfl, 0, rfl⟩

theorem ticks_any (v rest w : Int) (W : World) :
    Calls Tryd.prog 17 #[.int .i64 v, .int .i64 rest, .int .i64 w] W fun e w' => e = .returned (.tuple #[.int .i64 (tiV v rest w), .int .i64 (tiR v rest w), .int .i64 (tiE v rest w)]) ∧ ∃ n, w' = W.drewN n := by
  by_cases h : w < 1 ∨ 65536 < w ∨ v < 0 ∨ 4503599626321920 < v ∨ rest < 0 ∨ w - 1 < rest
  · refine (ticks_bad v rest w W h).mono fun e w' ⟨he, hw⟩ => ⟨he.trans (ret3 ?_ ?_ ?_), hw⟩ <;> simp [tiV, tiR, tiE, tiA_false h]
  · by_cases h7 : v * w + rest ≤ 4503599627370495
    · refine (ticks_yes v rest w W (by omega) (by omega) (by omega) (by omega) (by omega) (by omega) h7).mono fun e w' ⟨he, hw⟩ => ⟨he.trans (ret3 ?_ ?_ ?_), hw⟩ <;> simp [tiV, tiR, tiE, tiA_true (v := v) (rest := rest) (w := w) (by omega) (by omega) (by omega) (by omega) (by omega) (by omega), tiB_true h7]
    · refine (ticks_long v rest w W (by omega) (by omega) (by omega) (by omega) (by omega) (by omega) h7).mono fun e w' ⟨he, hw⟩ => ⟨he.trans (ret3 ?_ ?_ ?_), hw⟩ <;> simp [tiV, tiR, tiE, tiA_true (v := v) (rest := rest) (w := w) (by omega) (by omega) (by omega) (by omega) (by omega) (by omega), tiB_false h7]

/-- The approximate virtual time. -/
def apV (d w : Int) : Int := if okB d w then d * 1048576 * (4294967296 / w) / 4294967296 else 0


theorem mask32 (x : Int) (h0 : 0 ≤ x) (h1 : x < 9223372036854775808) : bits .and .i64 x 4294967295 = x % 4294967296 :=
  bits_mask .i64 63 (by decide) (fun n h0 h1 => by rw [IntKind.wrap_i64]; omega) 32 (by decide) x h0 h1

/-- The product by halves. -/
theorem halves (n inv : Int) (h1 : 0 ≤ n) (h2 : n ≤ 4503599626321920) (h3 : 0 ≤ inv) (h4 : inv ≤ 4294967296) :
    wrap64 (wrap64 (n / 4294967296 * inv) + wrap64 (IntKind.u64.wrap (IntKind.u64.wrap (bits BinOp.and IntKind.i64 n 4294967295) * IntKind.u64.wrap inv) / 4294967296)) = n * inv / 4294967296 := by
  rw [mask32 n h1 (by omega), IntWalk.u64_in (n % 4294967296) (by omega), IntWalk.u64_in inv (by omega)]
  have a0 : 0 ≤ n / 4294967296 := by omega
  have a1 : n / 4294967296 ≤ 1048576 := by omega
  have b0 : 0 ≤ n % 4294967296 := by omega
  have b1 : n % 4294967296 ≤ 4294967295 := by omega
  have e : n * inv = n / 4294967296 * inv * 4294967296 + n % 4294967296 * inv := by
    have h := Int.emod_add_mul_ediv n 4294967296
    generalize n % 4294967296 = r at *
    generalize n / 4294967296 = q at *
    rw [← h, Int.add_mul, Int.mul_assoc, Int.mul_comm 4294967296, Int.add_comm]
  rw [e]
  have c0 : 0 ≤ n / 4294967296 * inv := Int.mul_nonneg a0 h3
  have c1 : n / 4294967296 * inv ≤ 1048576 * 4294967296 := Int.mul_le_mul a1 h4 h3 (by omega)
  have d0 : 0 ≤ n % 4294967296 * inv := Int.mul_nonneg b0 h3
  have d1 : n % 4294967296 * inv ≤ 4294967295 * 4294967296 := Int.mul_le_mul b1 h4 h3 (by omega)
  clear e
  generalize n / 4294967296 * inv = p at *
  generalize n % 4294967296 * inv = q at *
  rw [IntWalk.u64_in q (by omega), IntWalk.wrap64_in p (by omega), IntWalk.wrap64_in (q / 4294967296) (by omega), IntWalk.wrap64_in _ (by omega)]
  omega

theorem inv_bd (w : Int) (h3 : 1 ≤ w) (h4 : w ≤ 65536) : 65536 ≤ 4294967296 / w ∧ 4294967296 / w ≤ 4294967296 := by
  constructor
  · rw [Int.le_ediv_iff_mul_le (by omega)]; omega
  · exact Int.ediv_le_self _ (by omega)

set_option maxHeartbeats 400000 in
theorem approx_yes (d w : Int) (W : World) (h1 : 0 ≤ d) (h2 : d ≤ 4294967295) (h3 : 1 ≤ w) (h4 : w ≤ 65536) :
    Calls Tryd.prog 19 #[.int .i64 d, .int .i64 w] W fun e w' => e = .returned (.tuple #[.int .i64 (d * 1048576 * (4294967296 / w) / 4294967296), .int .i64 0]) ∧ W = w' := by
  have hI := inv_bd w h3 h4
  have HH := Lib.hid (halves (d * 1048576) (4294967296 / w) (by omega) (by omega) (by omega) (by omega))
  clear hI
  go_enter Tryd.func19, Tryd.ntmps19
  go_wp2_with (first | (go_at_call 21; refine (inverse_yes _ _ h3 h4).mono ?_; rintro e w' ⟨rfl, rfl⟩) | go_in)
  go_ret2
  exact ⟨ret2 HH.out rfl, rfl⟩

set_option maxHeartbeats 400000 in
theorem approx_no (d w : Int) (W : World) (h : d < 0 ∨ 4294967295 < d ∨ w < 1 ∨ 65536 < w) :
    Calls Tryd.prog 19 #[.int .i64 d, .int .i64 w] W fun e w' => e = .returned (.tuple #[.int .i64 0, .int .i64 2]) ∧ W = w' := by
  by_cases h0 : d < 0
  · go_enter Tryd.func19, Tryd.ntmps19
    go_wp2
    go_ret2
    exact ⟨rfl, rfl⟩
  by_cases h1 : 4294967295 < d
  · have h2 : 0 ≤ d := by omega
    go_enter Tryd.func19, Tryd.ntmps19
    go_wp2
    go_ret2
    exact ⟨rfl, rfl⟩
  have h2 : 0 ≤ d := by omega
  have h3 : d ≤ 4294967295 := by omega
  by_cases h4 : w < 1
  · clear h h0 h1
    go_enter Tryd.func19, Tryd.ntmps19
    go_wp2
    go_ret2
    exact ⟨rfl, rfl⟩
  · have h5 : 1 ≤ w := by omega
    have h6 : decide (w ≤ 65536) = false := decide_eq_false (by omega)
    clear h h0 h1 h4
    go_enter Tryd.func19, Tryd.ntmps19
    go_wp2
    go_ret2
    exact ⟨rfl, rfl⟩

theorem approx_any (d w : Int) (W : World) :
    Calls Tryd.prog 19 #[.int .i64 d, .int .i64 w] W fun e w' => e = .returned (.tuple #[.int .i64 (apV d w), .int .i64 (scE d w)]) ∧ W = w' := by
  rcases okB_cases d w with ⟨h1, h2, h3, h4⟩ | h
  · refine (approx_yes d w W h1 h2 h3 h4).mono fun e w' ⟨he, hw⟩ => ⟨he.trans (ret2 ?_ ?_), hw⟩ <;> simp [apV, scE, okB_true h1 h2 h3 h4]
  · refine (approx_no d w W h).mono fun e w' ⟨he, hw⟩ => ⟨he.trans (ret2 ?_ ?_), hw⟩ <;> simp [apV, scE, okB_false h]

theorem scV_bd (d w : Int) : 0 ≤ scV d w ∧ scV d w ≤ 4503599626321920 := by
  rcases okB_cases d w with ⟨h1, h2, h3, h4⟩ | h
  · simp only [scV, okB_true h1 h2 h3 h4, if_true]
    have := Int.ediv_nonneg (a := d * 1048576) (b := w) (by omega) (by omega)
    have := Int.ediv_le_self (a := d * 1048576) w (by omega)
    omega
  · simp [scV, okB_false h]
theorem scE_bd (d w : Int) : 0 ≤ scE d w ∧ scE d w ≤ 2 := by
  unfold scE; split <;> omega
theorem scR_bd (d w : Int) : 0 ≤ scR d w ∧ scR d w ≤ 65535 := by
  rcases okB_cases d w with ⟨h1, h2, h3, h4⟩ | h
  · simp only [scR, okB_true h1 h2 h3 h4, if_true]
    have := Int.emod_nonneg (d * 1048576) (b := w) (by omega)
    have := Int.emod_lt_of_pos (d * 1048576) (b := w) (by omega)
    omega
  · simp [scR, okB_false h]
theorem apV_bd (d w : Int) : 0 ≤ apV d w ∧ apV d w ≤ 4503599626321920 := by
  rcases okB_cases d w with ⟨h1, h2, h3, h4⟩ | h
  · simp only [apV, okB_true h1 h2 h3 h4, if_true]
    have hI := inv_bd w h3 h4
    have a0 : 0 ≤ d * 1048576 * (4294967296 / w) := Int.mul_nonneg (by omega) (by omega)
    have a1 : d * 1048576 * (4294967296 / w) ≤ 4503599626321920 * 4294967296 := Int.mul_le_mul (by omega) hI.2 (by omega) (by omega)
    omega
  · simp [apV, okB_false h]

set_option maxHeartbeats 400000 in
theorem error_any (d w : Int) (W : World) :
    Calls Tryd.prog 20 #[.int .i64 d, .int .i64 w] W fun e w' => e = .returned (.tuple #[.int .i64 (scV d w - apV d w), .int .i64 (scE d w)]) ∧ ∃ n, w' = W.drewN n := by
  obtain ⟨a1, a2⟩ := scV_bd d w
  obtain ⟨b1, b2⟩ := apV_bd d w
  go_enter Tryd.func20, Tryd.ntmps20
  go_wp2_with (first | (go_at_call 16; refine (scaled_any _ _ _).mono ?_; rintro e w' ⟨rfl, n, rfl⟩) | (go_at_call 19; refine (approx_any _ _ _).mono ?_; rintro e w' ⟨rfl, rfl⟩))
  go_ret2
  exact ⟨rfl, _, rfl⟩


theorem tmod_bd (n b : Int) (h : 1 ≤ b) : -b < n.tmod b ∧ n.tmod b < b := by
  rcases Int.lt_or_le n 0 with h0 | h0
  · have h1 : n.tmod b = -((-n) % b) := by
      rw [← Int.tmod_eq_emod_of_nonneg (by omega : 0 ≤ -n), Int.neg_tmod, Int.neg_neg]
    have h2 := Int.emod_nonneg (-n) (b := b) (by omega)
    have h3 := Int.emod_lt_of_pos (-n) (b := b) (by omega)
    omega
  · rw [Int.tmod_eq_emod_of_nonneg h0]
    have h2 := Int.emod_nonneg n (b := b) (by omega)
    have h3 := Int.emod_lt_of_pos n (b := b) (by omega)
    omega
theorem modulo_eq (n b : Int) (h3 : 1 ≤ b) (h4 : b ≤ 4294967296) : (wrap64 (n.tmod b + b)).tmod b = n % b := by
  have h := tmod_bd n b h3
  rw [IntWalk.wrap64_in _ (by omega), Int.tmod_eq_emod_of_nonneg (by omega), Int.add_emod_right, Int.tmod_def, Int.sub_mul_emod_self_left]

set_option maxHeartbeats 400000 in
theorem modulo_any (n b : Int) (W : World) (h3 : 1 ≤ b) (h4 : b ≤ 4294967296) :
    Calls Tryd.prog 15 #[.int .i64 n, .int .i64 b] W fun e w' => e = .returned (.int .i64 (n % b)) ∧ W = w' := by
  have HH := Lib.hid (modulo_eq n b h3 h4)
  go_enter Tryd.func15, Tryd.ntmps15
  go_wp2
  go_ret
  exact ⟨congrArg (fun x => Ending.returned (.int .i64 x)) HH.out, rfl⟩

/-- The weights of the levels. -/
def tab : List Int := [56856, 45485, 36388, 29110, 23288, 18630, 14904, 11923, 9538, 7630, 6104, 4883, 3906, 3125, 2500, 2000, 1600, 1280, 1024, 819, 655, 524, 419, 335, 268, 214, 171, 137, 110, 88, 70, 56, 45, 36, 29, 23]
def tabRow : Array Value := (tab.map (Value.int .i64)).toArray
/-- The table's variable holds the table. -/
def TabW (w : World) : Prop := ∃ t fr, w.heap[0]? = some (.cells tabRow t fr)
theorem TabW.cell {w : World} (h : TabW w) (i : Nat) (hi : i < 36) : w.cell? ⟨0, i, none⟩ = some (.int .i64 (tab.getD i 0)) := by
  obtain ⟨t, fr, h⟩ := h
  rw [cell_of_row w 0 i tabRow t fr h]
  have : tabRow[i]? = (tab[i]?).map (Value.int .i64) := by unfold tabRow; simp
  rw [this, List.getD_eq_getElem?_getD, List.getElem?_eq_getElem (by simpa [tab] using hi)]
  rfl
theorem TabW.drewN {w : World} (h : TabW w) (n : Nat) : TabW (w.drewN n) := h
theorem TabW.pos {w : World} (h : TabW w) : 0 < w.heap.size := by
  obtain ⟨t, fr, h⟩ := h
  rcases Nat.eq_zero_or_pos w.heap.size with h0 | h0
  · rw [Array.getElem?_eq_none (by omega)] at h; cases h
  · exact h0
theorem TabW.kp {B : Nat} {w w' : World} (h : TabW w) (hb : Kp B w w') (hB : 0 < B) : TabW w' := by
  obtain ⟨t, fr, h⟩ := h
  exact ⟨t, fr, (hb.block 0 hB).trans h⟩

def ofV (l : Int) : Int := if 0 ≤ l ∧ l ≤ 35 then tab.getD l.toNat 0 else 0
def ofE (l : Int) : Int := if 0 ≤ l ∧ l ≤ 35 then 0 else 2

set_option maxHeartbeats 400000 in
theorem of_yes (l : Nat) (W : World) (hT : TabW W) (h2 : (l : Int) ≤ 35) :
    Calls Tryd.prog 22 #[.int .i64 l] W fun e w' => e = .returned (.tuple #[.int .i64 (tab.getD l 0), .int .i64 0]) ∧ W = w' := by
  have hc := hT.cell l (by omega)
  generalize tab.getD l 0 = v at hc ⊢
  go_enter Tryd.func22, Tryd.ntmps22
  go_wp2
  go_ret2
  exact ⟨rfl, rfl⟩

theorem of_any (l : Int) (W : World) (hT : TabW W) :
    Calls Tryd.prog 22 #[.int .i64 l] W fun e w' => e = .returned (.tuple #[.int .i64 (ofV l), .int .i64 (ofE l)]) ∧ W = w' := by
  by_cases h : 0 ≤ l ∧ l ≤ 35
  · obtain ⟨n, rfl⟩ := Int.eq_ofNat_of_zero_le h.1
    refine (of_yes n W hT (by omega)).mono fun e w' ⟨he, hw⟩ => ⟨he.trans (ret2 ?_ ?_), hw⟩
    · simp only [ofV, if_pos h, Int.toNat_natCast]
    · simp only [ofE, if_pos h]
  · refine Calls.mono (R := fun e w' => e = .returned (.tuple #[.int .i64 0, .int .i64 2]) ∧ W = w') ?_ fun e w' ⟨he, hw⟩ => ⟨he.trans (ret2 ?_ ?_), hw⟩
    · by_cases h0 : l < 0
      · clear h
        go_enter Tryd.func22, Tryd.ntmps22
        go_wp2
        go_ret2
        exact ⟨rfl, rfl⟩
      · have h1 : decide (l ≤ 35) = false := decide_eq_false (by omega)
        have h2 : 0 ≤ l := by omega
        clear h h0
        go_enter Tryd.func22, Tryd.ntmps22
        go_wp2
        go_ret2
        exact ⟨rfl, rfl⟩
    · simp only [ofV, if_neg h]
    · simp only [ofE, if_neg h]
end Go.Proofs.YtgfmgfblmfacgaaDoor
