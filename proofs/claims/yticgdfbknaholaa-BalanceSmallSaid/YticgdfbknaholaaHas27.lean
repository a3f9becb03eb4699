/-
  The contracts of small functions: whether a mask has a CPU, comparison.
-/
import Derived.Test.YticgdfbknaholaaProg
import Derived.Test.YticgdfbknaholaaData27
import Derived.Deep.QuietTactic
import Derived.BigQuiet
namespace Go.Proofs.Yticgdfbknaholaa
open Go.RowKit

/-- Whether a mask has a CPU. -/
def hasB (m c : Int) : Bool := m / 2 ^ c.toNat % 2 == 1
theorem and_one (E : Int) (h0 : 0 ≤ E) (h1 : E ≤ 18446744073709551615) : bits BinOp.and IntKind.u64 E 1 = E % 2 := by
  have h := bits_and_u64_nat E.toNat 1 (by omega) (by omega)
  rw [Nat.and_one_is_mod, Int.toNat_of_nonneg h0] at h
  have h2 : ((E.toNat % 2 : Nat) : Int) = E % 2 := by omega
  exact h.trans h2
theorem shr_bd {m c : Int} (m0 : 0 ≤ m) (m1 : m ≤ 18446744073709551615) : 0 ≤ m / 2 ^ c.toNat ∧ m / 2 ^ c.toNat ≤ 18446744073709551615 := by
  have h2 : (0 : Int) ≤ 2 ^ c.toNat := Int.pow_nonneg (by decide)
  refine ⟨Int.ediv_nonneg m0 h2, Int.le_trans (Int.ediv_le_self _ m0) m1⟩
theorem has_any (W : World) {m c : Int} (m0 : 0 ≤ m) (m1 : m ≤ 18446744073709551615) (c0 : 0 ≤ c) (c1 : c ≤ 64) :
    Calls Try.prog 53 #[.int .u64 m, .int .i64 c] W fun e w' => e = .returned (.bool (hasB m c)) ∧ W = w' := by
  have h := and_one _ (shr_bd (c := c) m0 m1).1 (shr_bd (c := c) m0 m1).2
  unfold hasB
  rw [← h]
  clear h
  go_enter Try.func53, Try.ntmps53
  go_wp2_with fail
  go_ret
  exact ⟨rfl, rfl⟩
theorem nan_any (W : World) (a : Int) : Calls Try.prog 54 #[.int .i64 a] W fun e w' => e = .returned (.bool false) ∧ W = w' := by
  go_enter Try.func54, Try.ntmps54
  go_wp2_with fail
  go_ret
  exact ⟨rfl, rfl⟩
def cmpI (a b : Int) : Int := if a < b then -1 else if b < a then 1 else 0
theorem compare_any (a b : Int) (W : World) : Calls Try.prog 37 #[.int .i64 a, .int .i64 b] W fun e w' => e = .returned (.int .i64 (cmpI a b)) ∧ W = w' := by
  by_cases h1 : a < b
  · have e : cmpI a b = -1 := by unfold cmpI; rw [if_pos h1]
    rw [e]
    clear e
    go_enter Try.func37, Try.ntmps37
    go_wp2
    go_ret
    exact ⟨rfl, rfl⟩
  by_cases h2 : b < a
  · have e : cmpI a b = 1 := by unfold cmpI; rw [if_neg h1, if_pos h2]
    have g : decide (a < b) = false := decide_eq_false h1
    rw [e]
    clear e h1
    go_enter Try.func37, Try.ntmps37
    go_wp2
    go_ret
    exact ⟨rfl, rfl⟩
  · have e : cmpI a b = 0 := by unfold cmpI; rw [if_neg h1, if_neg h2]
    have g : a = b := by omega
    subst g
    rw [e]
    clear e h1 h2
    go_enter Try.func37, Try.ntmps37
    go_wp2
    go_ret
    exact ⟨rfl, rfl⟩
/-- Whether a task is right, behind one with an ID (n: the CPUs). -/
def rightT (n last : Int) (t : Tk) : Bool :=
  decide (last < t.id) && decide (t.id ≤ 65535) && decide (1 ≤ t.wt) && decide (t.wt ≤ 65536) && decide (0 ≤ t.cpu) && decide (t.cpu < n) && hasB t.mask t.cpu && (n == 64 || t.mask / 2 ^ n.toNat == 0)
theorem right_f {n last : Int} {t : Tk} (h : t.id ≤ last ∨ 65535 < t.id ∨ t.wt < 1 ∨ 65536 < t.wt ∨ t.cpu < 0 ∨ n ≤ t.cpu) : rightT n last t = false := by
  unfold rightT
  rcases h with h | h | h | h | h | h
  · rw [decide_eq_false (show ¬ last < t.id by omega)]; rfl
  · rw [decide_eq_false (show ¬ t.id ≤ 65535 by omega)]; simp
  · rw [decide_eq_false (show ¬ 1 ≤ t.wt by omega)]; simp
  · rw [decide_eq_false (show ¬ t.wt ≤ 65536 by omega)]; simp
  · rw [decide_eq_false (show ¬ 0 ≤ t.cpu by omega)]; simp
  · rw [decide_eq_false (show ¬ t.cpu < n by omega)]; simp
set_option maxHeartbeats 800000 in
theorem right_any (W : World) {n last : Int} {t : Tk} {A B : Option Addr} {la ca lb cb : Nat} (ht : t.ok) (hn0 : 1 ≤ n) (hn1 : n ≤ 64) :
    Calls Try.prog 41 #[.agg #[.int .i64 n, .slice A la ca, .slice B lb cb], tkv t, .int .i64 last] W fun e w' => e = .returned (.bool (rightT n last t)) ∧ GrewS W w' := by
  obtain ⟨id, grp, wt, cpu, mask, rdy, v, r⟩ := t
  obtain ⟨i0, i1, w0, w1, p0, p1, m0, m1⟩ := ht
  dsimp only at *
  by_cases h : id ≤ last
  · rw [right_f (Or.inl h)]
    go_enter Try.func41, Try.ntmps41
    go_wp2_with fail
    go_ret
    exact ⟨rfl, by repeat with_reducible first | exact GrewS.refl _ | apply GrewS.alloc | apply GrewS.drewN⟩
  have g0 : last < id := by omega
  clear h
  by_cases h : 65535 < id
  · rw [right_f (Or.inr (Or.inl h))]
    go_enter Try.func41, Try.ntmps41
    go_wp2_with fail
    go_ret
    exact ⟨rfl, by repeat with_reducible first | exact GrewS.refl _ | apply GrewS.alloc | apply GrewS.drewN⟩
  have g1 : id ≤ 65535 := by omega
  clear h
  by_cases h : wt < 1
  · rw [right_f (Or.inr (Or.inr (Or.inl h)))]
    go_enter Try.func41, Try.ntmps41
    go_wp2_with fail
    go_ret
    exact ⟨rfl, by repeat with_reducible first | exact GrewS.refl _ | apply GrewS.alloc | apply GrewS.drewN⟩
  have g2 : 1 ≤ wt := by omega
  clear h
  by_cases h : 65536 < wt
  · rw [right_f (Or.inr (Or.inr (Or.inr (Or.inl h))))]
    go_enter Try.func41, Try.ntmps41
    go_wp2_with fail
    go_ret
    exact ⟨rfl, by repeat with_reducible first | exact GrewS.refl _ | apply GrewS.alloc | apply GrewS.drewN⟩
  have g3 : wt ≤ 65536 := by omega
  clear h
  by_cases h : cpu < 0
  · rw [right_f (Or.inr (Or.inr (Or.inr (Or.inr (Or.inl h)))))]
    go_enter Try.func41, Try.ntmps41
    go_wp2_with fail
    go_ret
    exact ⟨rfl, by repeat with_reducible first | exact GrewS.refl _ | apply GrewS.alloc | apply GrewS.drewN⟩
  have g4 : 0 ≤ cpu := by omega
  clear h
  by_cases h : n ≤ cpu
  · rw [right_f (Or.inr (Or.inr (Or.inr (Or.inr (Or.inr h)))))]
    go_enter Try.func41, Try.ntmps41
    go_wp2_with fail
    go_ret
    exact ⟨rfl, by repeat with_reducible first | exact GrewS.refl _ | apply GrewS.alloc | apply GrewS.drewN⟩
  have g5 : cpu < n := by omega
  clear h
  have e : rightT n last ⟨id, grp, wt, cpu, mask, rdy, v, r⟩ = (hasB mask cpu && (n == 64 || mask / 2 ^ n.toNat == 0)) := by
    unfold rightT
    simp [g0, g1, g2, g3, g4, g5]
  rw [e]
  clear e
  have HB := fun W => Lib.hid (has_any W m0 m1 g4 (show cpu ≤ 64 by omega))
  cases hb : hasB mask cpu
  · rw [hb] at HB
    go_enter Try.func41, Try.ntmps41
    go_wp2_with fail
    (with_reducible refine (HB _).out.mono ?_)
    rintro e w2 ⟨rfl, rfl⟩
    go_wp2_with fail
    go_ret
    exact ⟨rfl, by repeat with_reducible first | exact GrewS.refl _ | apply GrewS.alloc | apply GrewS.drewN⟩
  · rw [hb] at HB
    by_cases h64 : n = 64
    · subst h64
      go_enter Try.func41, Try.ntmps41
      go_wp2_with fail
      (with_reducible refine (HB _).out.mono ?_)
      rintro e w2 ⟨rfl, rfl⟩
      go_wp2_with fail
      go_ret
      exact ⟨rfl, by repeat with_reducible first | exact GrewS.refl _ | apply GrewS.alloc | apply GrewS.drewN⟩
    · have h65 : (n == 64) = false := beq_eq_false_iff_ne.2 h64
      rw [h65, Bool.true_and, Bool.false_or]
      go_enter Try.func41, Try.ntmps41
      go_wp2_with fail
      (with_reducible refine (HB _).out.mono ?_)
      rintro e w2 ⟨rfl, rfl⟩
      go_wp2_with fail
      go_ret
      exact ⟨rfl, by repeat with_reducible first | exact GrewS.refl _ | apply GrewS.alloc | apply GrewS.drewN⟩
end Go.Proofs.Yticgdfbknaholaa
