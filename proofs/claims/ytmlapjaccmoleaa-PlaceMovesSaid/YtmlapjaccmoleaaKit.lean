/-
  The contracts of packages charge and place, by values.
-/
import Derived.Test.YtmlapjaccmoleaaProg
import Derived.Test.YtmlapjaccmoleaaMore
namespace Go.Proofs.Ytmlapjaccmoleaa
open Go.RowKit

/-- Is an entity right? -/
def rightB (v r w : Int) : Bool := decide (1 ≤ w ∧ w ≤ 65536 ∧ r < w ∧ (v < 18446744073709551615 ∨ r = 0))
/-- An entity as a value. -/
abbrev ent (v r w : Int) : Value := .agg #[.int .u64 v, .int .u32 r, .int .u32 w]
/-- The kinds' bounds. -/
structure EB (v r w : Int) : Prop where
  v0 : 0 ≤ v
  v1 : v ≤ 18446744073709551615
  r0 : 0 ≤ r
  r1 : r ≤ 4294967295
  w0 : 0 ≤ w
  w1 : w ≤ 4294967295
theorem rightB_mk {v r w : Int} (h1 : 1 ≤ w) (h2 : w ≤ 65536) (h3 : r < w) (h4 : v < 18446744073709551615 ∨ r = 0) : rightB v r w = true := decide_eq_true ⟨h1, h2, h3, h4⟩
theorem rightB_of {v r w : Int} (h : rightB v r w = true) : 1 ≤ w ∧ w ≤ 65536 ∧ r < w ∧ (v < 18446744073709551615 ∨ r = 0) := of_decide_eq_true h
theorem rightB_not {v r w : Int} (h : rightB v r w = false) : ¬ (1 ≤ w ∧ w ≤ 65536 ∧ r < w ∧ (v < 18446744073709551615 ∨ r = 0)) := of_decide_eq_false h

theorem right_t {v r w : Int} (W : World) (h : rightB v r w = true) :
    Calls Try.prog 25 #[ent v r w] W fun e w' => e = .returned (.bool true) ∧ W.alloc (.cells #[.int .u64 v, .int .u32 r, .int .u32 w] 25) = w' := by
  obtain ⟨h1, h2, h3, h4⟩ := rightB_of h
  clear h
  by_cases h5 : v < 18446744073709551615
  · clear h4
    go_enter Try.func25, Try.ntmps25
    go_wp2
    go_ret
    exact ⟨rfl, rfl⟩
  · have h6 : r = 0 := by omega
    subst h6
    have h7 : decide (v < 18446744073709551615) = false := decide_eq_false h5
    clear h4 h5
    go_enter Try.func25, Try.ntmps25
    go_wp2
    go_ret
    exact ⟨rfl, rfl⟩

set_option maxHeartbeats 400000 in
theorem right_f {v r w : Int} (W : World) (b : EB v r w) (h : rightB v r w = false) :
    Calls Try.prog 25 #[ent v r w] W fun e w' => e = .returned (.bool false) ∧ W.alloc (.cells #[.int .u64 v, .int .u32 r, .int .u32 w] 25) = w' := by
  have h0 := rightB_not h
  have w0 := b.w0
  have w1 := b.w1
  clear h b
  by_cases h1 : w < 1
  · clear h0
    have g : decide (1 ≤ w) = false := decide_eq_false (by omega)
    go_enter Try.func25, Try.ntmps25
    go_wp2
    go_ret
    exact ⟨rfl, rfl⟩
  have h1' : 1 ≤ w := by omega
  by_cases h2 : 65536 < w
  · clear h0 h1
    have g : decide (w ≤ 65536) = false := decide_eq_false (by omega)
    go_enter Try.func25, Try.ntmps25
    go_wp2
    go_ret
    exact ⟨rfl, rfl⟩
  have h2' : w ≤ 65536 := by omega
  by_cases h3 : w ≤ r
  · clear h0 h1 h2
    have g : decide (r < w) = false := decide_eq_false (by omega)
    go_enter Try.func25, Try.ntmps25
    go_wp2
    go_ret
    exact ⟨rfl, rfl⟩
  have h3' : r < w := by omega
  have g : decide (v < 18446744073709551615) = false := decide_eq_false (by omega)
  have g2 : (r == 0) = false := beq_eq_false_iff_ne.2 (by omega)
  clear h0 h1 h2 h3
  go_enter Try.func25, Try.ntmps25
  go_wp2
  go_ret
  exact ⟨rfl, rfl⟩

/-- A sum that stops at the end, a difference that stops at 0. -/
def andV (a b : Int) : Int := if a + b < 18446744073709551615 then a + b else 18446744073709551615
def lessV (a b : Int) : Int := if b < a then a - b else 0
theorem andV_bd {a b : Int} (h1 : 0 ≤ a) (h3 : 0 ≤ b) : 0 ≤ andV a b ∧ andV a b ≤ 18446744073709551615 := by unfold andV; split <;> omega
theorem lessV_bd {a b : Int} (h2 : a ≤ 18446744073709551615) (h3 : 0 ≤ b) : 0 ≤ lessV a b ∧ lessV a b ≤ 18446744073709551615 := by unfold lessV; split <;> omega
theorem retU {a a' : Int} (h1 : a = a') : Ending.returned (.int .u64 a) = Ending.returned (.int .u64 a') := by rw [h1]

theorem and_any (a b : Int) (W : World) (h1 : 0 ≤ a) (h2 : a ≤ 18446744073709551615) (h3 : 0 ≤ b) (h4 : b ≤ 18446744073709551615) :
    Calls Try.prog 51 #[.int .u64 a, .int .u64 b] W fun e w' => e = .returned (.int .u64 (andV a b)) ∧ W = w' := by
  by_cases h : a + b < 18446744073709551615
  · have e : andV a b = a + b := by unfold andV; rw [if_pos h]
    rw [e]
    clear e
    go_enter Try.func51, Try.ntmps51
    go_wp2
    go_ret
    exact ⟨rfl, rfl⟩
  · have e : andV a b = a + (18446744073709551615 - a) := by unfold andV; rw [if_neg h]; omega
    rw [e]
    clear e
    by_cases h5 : b = 18446744073709551615 - a
    · have E := Lib.hid h5
      clear h5
      go_enter Try.func51, Try.ntmps51
      go_wp2
      all_goals go_ret
      all_goals exact ⟨retU (by have := E.out; omega), rfl⟩
    · have h6 : 18446744073709551615 - a < b := by omega
      clear h h5
      go_enter Try.func51, Try.ntmps51
      go_wp2
      go_ret
      exact ⟨rfl, rfl⟩

theorem less_any (a b : Int) (W : World) (h1 : 0 ≤ a) (h2 : a ≤ 18446744073709551615) (h3 : 0 ≤ b) (h4 : b ≤ 18446744073709551615) :
    Calls Try.prog 52 #[.int .u64 a, .int .u64 b] W fun e w' => e = .returned (.int .u64 (lessV a b)) ∧ W = w' := by
  by_cases h : b < a
  · have e : lessV a b = a - b := by unfold lessV; rw [if_pos h]
    rw [e]
    clear e
    go_enter Try.func52, Try.ntmps52
    go_wp2
    go_ret
    exact ⟨rfl, rfl⟩
  · have e : lessV a b = 0 := by unfold lessV; rw [if_neg h]
    rw [e]
    clear e
    have h5 : a ≤ b := by omega
    clear h
    go_enter Try.func52, Try.ntmps52
    go_wp2
    all_goals go_ret
    all_goals exact ⟨retU (by omega), rfl⟩

theorem refLess_any (a b : Int) (W : World) (h1 : 0 ≤ a) (h2 : a ≤ 18446744073709551615) (h3 : 0 ≤ b) (h4 : b ≤ 18446744073709551615) :
    Calls Try.prog 75 #[.int .u64 a, .int .u64 b] W fun e w' => e = .returned (.int .u64 (lessV a b)) ∧ W = w' := by
  by_cases h : b < a
  · have e : lessV a b = a - b := by unfold lessV; rw [if_pos h]
    rw [e]
    clear e
    go_enter Try.func75, Try.ntmps75
    go_wp2
    go_ret
    exact ⟨rfl, rfl⟩
  · by_cases h5 : a < b
    · have e : lessV a b = 0 := by unfold lessV; rw [if_neg h]
      rw [e]
      clear e h
      go_enter Try.func75, Try.ntmps75
      go_wp2
      go_ret
      exact ⟨rfl, rfl⟩
    · have h6 : a = b := by omega
      subst h6
      have e : lessV a a = 0 := by unfold lessV; rw [if_neg h]
      rw [e]
      clear e h h5
      go_enter Try.func75, Try.ntmps75
      go_wp2
      go_ret
      exact ⟨retU (by omega), rfl⟩

theorem refAnd_any (a b : Int) (W : World) (h1 : 0 ≤ a) (h2 : a ≤ 18446744073709551615) (h3 : 0 ≤ b) (h4 : b ≤ 18446744073709551615) :
    Calls Try.prog 76 #[.int .u64 a, .int .u64 b] W fun e w' => e = .returned (.int .u64 (andV a b)) ∧ W = w' := by
  by_cases h : a + b ≤ 18446744073709551615
  · have e : andV a b = a + b := by unfold andV; split <;> omega
    rw [e]
    clear e
    go_enter Try.func76, Try.ntmps76
    go_wp2
    go_ret
    exact ⟨rfl, rfl⟩
  · have e : andV a b = 18446744073709551615 := by unfold andV; rw [if_neg (by omega)]
    rw [e]
    clear e
    have hw : IntKind.u64.wrap (a + b) = a + b - 18446744073709551616 := by rw [IntKind.wrap_u64]; omega
    have hd : decide (IntKind.u64.wrap (a + b) < a) = true := decide_eq_true (by rw [hw]; omega)
    clear hw h
    go_enter Try.func76, Try.ntmps76
    go_wp2
    go_ret
    exact ⟨rfl, rfl⟩

theorem refRight_t {v r w : Int} (W : World) (b : EB v r w) (h : rightB v r w = true) :
    Calls Try.prog 74 #[ent v r w] W fun e w' => e = .returned (.bool true) ∧ W.alloc (.cells #[.int .u64 v, .int .u32 r, .int .u32 w] 74) = w' := by
  obtain ⟨h1, h2, h3, h4⟩ := rightB_of h
  have r0 := b.r0
  have v1 := b.v1
  clear h b
  by_cases h5 : v < 18446744073709551615
  · have g : (v == 18446744073709551615) = false := beq_eq_false_iff_ne.2 (by omega)
    clear h4
    go_enter Try.func74, Try.ntmps74
    go_wp2
    go_ret
    exact ⟨rfl, rfl⟩
  · have h6 : r = 0 := by omega
    subst h6
    have g : (v == 18446744073709551615) = true := beq_iff_eq.2 (by omega)
    clear h4 h5
    go_enter Try.func74, Try.ntmps74
    go_wp2
    go_ret
    exact ⟨rfl, rfl⟩

set_option maxHeartbeats 400000 in
theorem refRight_f {v r w : Int} (W : World) (b : EB v r w) (h : rightB v r w = false) :
    Calls Try.prog 74 #[ent v r w] W fun e w' => e = .returned (.bool false) ∧ W.alloc (.cells #[.int .u64 v, .int .u32 r, .int .u32 w] 74) = w' := by
  have h0 := rightB_not h
  have w0 := b.w0
  have w1 := b.w1
  have v1 := b.v1
  have r0 := b.r0
  clear h b
  by_cases h1 : w < 1
  · clear h0
    have g : decide (1 ≤ w) = false := decide_eq_false (by omega)
    go_enter Try.func74, Try.ntmps74
    go_wp2
    go_ret
    exact ⟨rfl, rfl⟩
  have h1' : 1 ≤ w := by omega
  by_cases h2 : 65536 < w
  · clear h0 h1
    have g : decide (w ≤ 65536) = false := decide_eq_false (by omega)
    go_enter Try.func74, Try.ntmps74
    go_wp2
    go_ret
    exact ⟨rfl, rfl⟩
  have h2' : w ≤ 65536 := by omega
  by_cases h3 : w ≤ r
  · clear h0 h1 h2
    have g : decide (r < w) = false := decide_eq_false (by omega)
    go_enter Try.func74, Try.ntmps74
    go_wp2
    go_ret
    exact ⟨rfl, rfl⟩
  have h3' : r < w := by omega
  have g : (v == 18446744073709551615) = true := beq_iff_eq.2 (by omega)
  have g2 : 0 < r := by omega
  clear h0 h1 h2 h3
  go_enter Try.func74, Try.ntmps74
  go_wp2
  go_ret
  exact ⟨rfl, rfl⟩
end Go.Proofs.Ytmlapjaccmoleaa
