/-
  The contracts of package move, by values.
-/
import Derived.Test.YtmlapjaccmoleaaPlain
import Derived.Test.YtmlapjaccmoleaaCut
import Derived.Deep.RegionHeld3
import Derived.Laws.EntriesVeiled
namespace Go.Proofs.Ytmlapjaccmoleaa
open Go.RowKit

/-- A relative entity as a value. -/
abbrev rel (b : Bool) (y r w : Int) : Value := .agg #[.bool b, .int .u64 y, .int .u32 r, .int .u32 w]

theorem right_any {v r w : Int} (W : World) (b : EB v r w) : Calls Try.prog 25 #[ent v r w] W fun e w' => e = .returned (.bool (rightB v r w)) ∧ W.alloc (.cells #[.int .u64 v, .int .u32 r, .int .u32 w] 25) = w' := by
  cases h : rightB v r w
  · exact right_f W b h
  · exact right_t W h
theorem EB.zero {y r w : Int} (h : EB y r w) : EB 0 r w := ⟨by omega, by omega, h.r0, h.r1, h.w0, h.w1⟩

theorem relRight_any {b : Bool} {y r w : Int} (W : World) (hb : EB y r w) : Calls Try.prog 41 #[rel b y r w] W fun e w' => e = .returned (.bool (relB b y r w)) ∧ GrewS W w' := by
  have H := fun W => Lib.hid (right_any W hb.zero)
  cases b
  · have e : relB false y r w = rightB 0 r w := rfl
    rw [e]
    clear e hb
    generalize rightB 0 r w = B at *
    go_enter Try.func41, Try.ntmps41
    go_wp2_with fail
    refine (H _).out.mono ?_
    rintro e w' ⟨rfl, rfl⟩
    go_wp2_with fail
    go_ret
    exact ⟨rfl, ((GrewS.refl W).alloc _).alloc _⟩
  · by_cases hy : 0 < y
    · have e : relB true y r w = rightB 0 r w := by unfold relB; rw [if_pos rfl, if_pos hy]
      rw [e]
      clear e hb
      generalize rightB 0 r w = B at *
      go_enter Try.func41, Try.ntmps41
      go_wp2_with fail
      refine (H _).out.mono ?_
      rintro e w' ⟨rfl, rfl⟩
      go_wp2_with fail
      go_ret
      exact ⟨rfl, ((GrewS.refl W).alloc _).alloc _⟩
    · have e : relB true y r w = false := by unfold relB; rw [if_pos rfl, if_neg hy]
      rw [e]
      clear e
      have hy' := decide_eq_false hy
      clear hy H
      go_enter Try.func41, Try.ntmps41
      go_wp2_with fail
      go_ret
      exact ⟨rfl, (GrewS.refl W).alloc _⟩

theorem off_t {v r w f : Int} (W : World) (b : EB v r w) (f0 : 0 ≤ f) (f1 : f ≤ 18446744073709551615) (h : rightB v r w = true) :
    Calls Try.prog 37 #[ent v r w, .int .u64 f] W fun e w' => e = .returned (.tuple #[rel (offB v f) (ahV v f) r w, .int .i64 0]) ∧ GrewS W w' := by
  have H := fun W => Lib.hid (ahead_t W b f0 f1 h)
  have e : offB v f = !ahB v f := by unfold offB ahB; by_cases q : v < f <;> simp [q] <;> omega
  rw [e]
  clear e b f0 f1 h
  generalize ahV v f = V at *
  go_enter Try.func37, Try.ntmps37
  go_wp2_with fail
  refine (H _).out.mono ?_
  rintro e w' ⟨rfl, os1, k1, hl1, rfl⟩
  go_wp2_with fail
  exact bodyPost_ret (v := .tuple #[rel (!decide (f ≤ v)) V r w, .int .i64 0]) (by simp [results, Try.results37, go_sem]) rfl ⟨rfl, by
    repeat with_reducible first | exact GrewS.refl _ | apply GrewS.drewN | apply GrewS.more | apply GrewS.alloc | (refine GrewS.setCell ?_ (by simp) _)⟩

theorem off_f {v r w f : Int} (W : World) (b : EB v r w) (h : rightB v r w = false) :
    Calls Try.prog 37 #[ent v r w, .int .u64 f] W fun e w' => e = .returned (.tuple #[rel false 0 0 0, .int .i64 2]) ∧ GrewS W w' := by
  have H := fun W => Lib.hid (ahead_f (f := f) W b h)
  clear b h
  go_enter Try.func37, Try.ntmps37
  go_wp2_with fail
  refine (H _).out.mono ?_
  rintro e w' ⟨rfl, os1, k1, hl1, rfl⟩
  go_wp2_with fail
  exact bodyPost_ret (v := .tuple #[rel false 0 0 0, .int .i64 2]) (by simp [results, Try.results37, go_sem]) rfl ⟨rfl, by
    repeat with_reducible first | exact GrewS.refl _ | apply GrewS.drewN | apply GrewS.more | apply GrewS.alloc | (refine GrewS.setCell ?_ (by simp) _)⟩

/-- The four ways, as functions. -/
theorem way1_any {f y : Int} (W : World) (f0 : 0 ≤ f) (f1 : f ≤ 18446744073709551615) (y0 : 0 ≤ y) : Calls Try.prog 79 #[.int .u64 f, .int .u64 y] W fun e w' => e = .returned (.int .u64 (lessV f y)) ∧ W = w' := by
  by_cases h : y < f
  · have e : lessV f y = f - y := if_pos h
    rw [e]
    clear e
    go_enter Try.func79, Try.ntmps79
    go_wp2
    all_goals
      go_ret
      exact ⟨rfl, rfl⟩
  · have e : lessV f y = 0 := if_neg h
    rw [e]
    clear e
    have h' : f ≤ y := by omega
    clear h
    go_enter Try.func79, Try.ntmps79
    go_wp2
    all_goals
      go_ret
      exact ⟨retU (by omega), rfl⟩

theorem way3_any {f y : Int} (W : World) (f0 : 0 ≤ f) (f1 : f ≤ 18446744073709551615) (y0 : 0 ≤ y) (_ : y ≤ 18446744073709551615) : Calls Try.prog 81 #[.int .u64 f, .int .u64 y] W fun e w' => e = .returned (.int .u64 (andV f y)) ∧ W = w' := by
  by_cases h : f + y < 18446744073709551615
  · have e : andV f y = f + y := if_pos h
    rw [e]
    clear e
    have h' : y < 18446744073709551615 - f := by omega
    clear h
    go_enter Try.func81, Try.ntmps81
    go_wp2
    all_goals
      go_ret
      exact ⟨rfl, rfl⟩
  · have e : andV f y = 18446744073709551615 := if_neg h
    rw [e]
    clear e
    have h' : 18446744073709551615 - f ≤ y := by omega
    clear h
    go_enter Try.func81, Try.ntmps81
    go_wp2
    all_goals
      go_ret
      exact ⟨retU (by omega), rfl⟩
theorem retUUB {a a' b b' : Int} {c : Bool} (h1 : a = a') (h2 : b = b') : Ending.returned (.tuple #[.int .u64 a, .int .u64 b, .bool c]) = Ending.returned (.tuple #[.int .u64 a', .int .u64 b', .bool c]) := by rw [h1, h2]
theorem way2_any {y : Int} (W : World) : Calls Try.prog 80 #[.int .u64 y] W fun e w' => e = .returned (.tuple #[.int .u64 y, .int .u64 18446744073709551615, .bool true]) ∧ W = w' := by
  go_enter Try.func80, Try.ntmps80
  go_wp2
  go_ret3
  exact ⟨rfl, rfl⟩
theorem way4_t {y : Int} (W : World) (y0 : 0 ≤ y) (y1 : y < 18446744073709551615) : Calls Try.prog 82 #[.int .u64 y] W fun e w' => e = .returned (.tuple #[.int .u64 0, .int .u64 (18446744073709551615 - y - 1), .bool true]) ∧ W = w' := by
  go_enter Try.func82, Try.ntmps82
  go_wp2
  go_ret3
  exact ⟨rfl, rfl⟩
theorem way4_f (W : World) : Calls Try.prog 82 #[.int .u64 18446744073709551615] W fun e w' => e = .returned (.tuple #[.int .u64 0, .int .u64 0, .bool false]) ∧ W = w' := by
  go_enter Try.func82, Try.ntmps82
  go_wp2
  go_ret3
  exact ⟨rfl, rfl⟩
/-- The pair of functions. -/
def wayV (b : Bool) : Value := if b then .agg #[.func (.func 79) #[] #[], .func (.func 80) #[] #[]] else .agg #[.func (.func 81) #[] #[], .func (.func 82) #[] #[]]
theorem way_any {b : Bool} {y r w : Int} (W : World) : Calls Try.prog 63 #[rel b y r w] W fun e w' => e = .returned (wayV b) ∧ Grew 2 W w' := by
  cases b
  · go_enter Try.func63, Try.ntmps63
    go_wp2
    exact bodyPost_ret (v := .agg #[.func (.func 81) #[] #[], .func (.func 82) #[] #[]]) (by simp [results, Try.results63, go_sem]) rfl ⟨rfl, ((Grew.zero W).alloc _).alloc _⟩
  · go_enter Try.func63, Try.ntmps63
    go_wp2
    exact bodyPost_ret (v := .agg #[.func (.func 79) #[] #[], .func (.func 80) #[] #[]]) (by simp [results, Try.results63, go_sem]) rfl ⟨rfl, ((Grew.zero W).alloc _).alloc _⟩
end Go.Proofs.Ytmlapjaccmoleaa
