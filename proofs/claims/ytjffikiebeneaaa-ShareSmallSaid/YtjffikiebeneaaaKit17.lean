/-
  The contracts of the shares' own functions and of the reference's: divisors, right shares, fractions.
-/
import Derived.Test.YtjffikiebeneaaaProg
import Derived.Test.YtjffikiebeneaaaMore
import Derived.Test.YtjffikiebeneaaaOrd17
import Derived.Deep.QuietTactic
import Derived.BigQuiet
namespace Go.Proofs.Ytjffikiebeneaaa
open Go.RowKit

/-- A share as a value. -/
abbrev shr (n d : Int) : Value := .agg #[.int .i64 n, .int .i64 d]
theorem retI {a a' : Int} (h1 : a = a') : Ending.returned (.int .i64 a) = Ending.returned (.int .i64 a') := by rw [h1]

set_option maxHeartbeats 400000 in
theorem gcd_any {a b : Int} (W : World) (a0 : 0 ≤ a) (a1 : a ≤ 9223372036854775807) (b0 : 0 ≤ b) (b1 : b ≤ 9223372036854775807) :
    Calls Try.prog 51 #[.int .i64 a, .int .i64 b] W fun e w' => e = .returned (.int .i64 (gcdV a b)) ∧ ∃ n, w' = W.drewN n := by
  obtain ⟨g, hg⟩ : ∃ g, g = gcdV a b := ⟨_, rfl⟩
  rw [← hg]
  have HG := Lib.hid hg
  clear hg
  go_enter Try.func51, Try.ntmps51
  go_wp2
  go_loopw [0, 1] (fun x y wr => ∃ p q : Int, x = .int .i64 p ∧ y = .int .i64 q ∧ 0 ≤ p ∧ p ≤ 9223372036854775807 ∧ 0 ≤ q ∧ q ≤ 9223372036854775807 ∧ Hid (g = gcdV p q) ∧ ∃ n, wr = W.drewN n) (fun _ y _ => (intOf y).toNat)
  case atStart => exact ⟨a, b, rfl, rfl, a0, a1, b0, b1, HG, 0, rfl⟩
  case round =>
    clear HG a0 a1 b0 b1
    obtain ⟨p, q, rfl, rfl, p0, p1, q0, q1, HP, n, rfl⟩ := hrel
    by_cases hq : q = 0
    · subst hq
      have e : g = p := by rw [HP.out]; exact gcdV_zero p0
      subst e
      clear HP
      go_wp2
      go_ret
      exact ⟨rfl, _, rfl⟩
    · have q2 : 0 < q := by omega
      have hne : (q == 0) = false := beq_eq_false_iff_ne.2 hq
      have r0 := Int.emod_nonneg p (b := q) (by omega)
      have r1 := Int.emod_lt_of_pos p q2
      have HS := Lib.hid (gcdV_step p0 q2)
      clear hq
      go_wp2
      go_region
      all_goals
        go_wp2
        go_roundw
        case rel => exact ⟨q, _, rfl, rfl, q0, q1, r0, by omega, Lib.hid (by rw [HS.out]; exact HP.out), n + 1, rfl⟩
        case measure => simp [intOf]; omega
theorem in_t {n l h : Int} (W : World) (h1 : l ≤ n) (h2 : n ≤ h) : Calls Try.prog 47 #[.int .i64 n, .int .i64 l, .int .i64 h] W fun e w' => e = .returned (.bool true) ∧ W = w' := by
  go_enter Try.func47, Try.ntmps47
  go_wp2
  go_ret
  exact ⟨rfl, rfl⟩
theorem in_f {n l h : Int} (W : World) (h1 : n < l ∨ h < n) : Calls Try.prog 47 #[.int .i64 n, .int .i64 l, .int .i64 h] W fun e w' => e = .returned (.bool false) ∧ W = w' := by
  rcases Int.lt_or_le n l with h2 | h2
  · have g := decide_eq_false (show ¬ l ≤ n by omega)
    clear h1 h2
    go_enter Try.func47, Try.ntmps47
    go_wp2
    go_ret
    exact ⟨rfl, rfl⟩
  · have g := decide_eq_false (show ¬ n ≤ h by omega)
    clear h1
    go_enter Try.func47, Try.ntmps47
    go_wp2
    go_ret
    exact ⟨rfl, rfl⟩
set_option maxHeartbeats 400000 in
theorem divisor_any {a b : Int} (W : World) (a0 : 0 ≤ a) (a1 : a ≤ 9223372036854775807) (b0 : 0 < b) (b1 : b ≤ 9223372036854775807) :
    Calls Try.prog 53 #[.int .i64 a, .int .i64 b] W fun e w' => e = .returned (.int .i64 (gcdV a b)) ∧ W = w' := by
  obtain ⟨g, hg⟩ : ∃ g, g = gcdV a b := ⟨_, rfl⟩
  rw [← hg]
  have HG := Lib.hid hg
  clear hg
  go_enter Try.func53, Try.ntmps53
  go_wp2
  go_loop [0, 1] (fun x y => ∃ p q : Int, x = .int .i64 p ∧ y = .int .i64 q ∧ 0 ≤ p ∧ p ≤ 9223372036854775807 ∧ 0 < q ∧ q ≤ 9223372036854775807 ∧ Hid (g = gcdV p q)) (fun x y => (intOf x + intOf y).toNat)
  case atStart => exact ⟨a, b, rfl, rfl, a0, a1, b0, b1, HG⟩
  case round =>
    clear HG a0 a1 b0 b1
    obtain ⟨p, q, rfl, rfl, p0, p1, q0, q1, HP⟩ := hrel
    by_cases hp : p = 0
    · subst hp
      have e : g = q := by rw [HP.out, gcdV_comm]; exact gcdV_zero (Int.le_of_lt q0)
      subst e
      clear HP
      go_wp2
      go_ret
      exact ⟨rfl, rfl⟩
    · have p2 : 0 < p := by omega
      by_cases hlt : p < q
      · have r0 := Int.emod_nonneg q (b := p) (by omega)
        have r1 := Int.emod_lt_of_pos q p2
        have HS := Lib.hid (show g = gcdV (q % p) p by rw [HP.out, gcdV_comm (q % p) p, gcdV_step (Int.le_of_lt q0) p2, gcdV_comm])
        clear hp
        go_wp2
        go_round
        case rel => exact ⟨_, p, rfl, rfl, r0, by omega, p2, p1, HS⟩
        case measure => simp [intOf]; omega
      · have r0 := Int.emod_nonneg p (b := q) (by omega)
        have r1 := Int.emod_lt_of_pos p q0
        have HS := Lib.hid (show g = gcdV (p % q) q by rw [HP.out, gcdV_comm (p % q) q, gcdV_step (Int.le_of_lt p2) q0])
        clear hp
        go_wp2
        go_round
        case rel => exact ⟨_, q, rfl, rfl, r0, by omega, q0, q1, HS⟩
        case measure => simp [intOf]; omega
end Go.Proofs.Ytjffikiebeneaaa
