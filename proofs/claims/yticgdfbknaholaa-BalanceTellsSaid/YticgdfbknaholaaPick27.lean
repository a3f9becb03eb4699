/-
  The contract of Pick: an index below a number.
-/
import Derived.Test.YticgdfbknaholaaLds27
namespace Go.Proofs.Yticgdfbknaholaa
open Go.RowKit

set_option maxRecDepth 100000 in
set_option maxHeartbeats 1000000 in
theorem pick_any (W : World) {x : Int} {m : Nat} (h0 : 0 < m) (h1 : m ≤ 1000) (_x0 : -9223372036854775808 ≤ x) (_x1 : x ≤ 9223372036854775807) :
    Calls Try.prog 22 #[.int .i64 x, .int .i64 (m : Int)] W fun e w' => ∃ k : Nat, e = .returned (.int .i64 (k : Int)) ∧ k < m ∧ W = w' := by
  obtain ⟨r, hr⟩ : ∃ r, Int.tmod x (m : Int) = r := ⟨_, rfl⟩
  have hm1 : (1 : Int) ≤ (m : Int) := by omega
  have hm1' : ¬ ((m : Int) < 1) := by omega
  have hm2 : (m : Int) ≠ 0 := by omega
  have hm3 : ((m : Int) == 0) = false := beq_eq_false_iff_ne.2 hm2
  have hlt := Int.natAbs_tmod x (m : Int)
  rw [hr] at hlt
  have hr1 : r.natAbs < m := by rw [hlt, Int.natAbs_natCast]; exact Nat.mod_lt _ h0
  have hr2 : r < (m : Int) := by omega
  have hr3 : -(m : Int) < r := by omega
  have hw : IntKind.i64.wrap r = r := by
    unfold IntKind.wrap
    simp [IntKind.bits, IntKind.signed]
    omega
  clear hlt hr1
  by_cases hn : r < 0
  · go_enter Try.func22, Try.ntmps22
    go_wp2_with fail
    go_ret
    exact ⟨(r + m).toNat, by rw [Int.toNat_of_nonneg (by omega)]; rfl, by omega, rfl⟩
  · have hn' : 0 ≤ r := by omega
    go_enter Try.func22, Try.ntmps22
    go_wp2_with fail
    go_ret
    exact ⟨r.toNat, by rw [Int.toNat_of_nonneg (by omega)]; rfl, by omega, rfl⟩
end Go.Proofs.Yticgdfbknaholaa
