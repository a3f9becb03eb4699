/-
  The values of the laws' examples.
-/
import Derived.Test.YticgdfbknaholaaEq27
namespace Go.Proofs.Yticgdfbknaholaa
open Go.RowKit

def exS1 : Sc := ⟨2, [⟨1, 0, 100, 0, 3, true, 0, 0⟩, ⟨2, 0, 300, 1, 3, true, 0, 0⟩, ⟨3, 0, 200, 0, 3, true, 0, 0⟩], [0, 0]⟩
def exS2 : Sc := ⟨2, [⟨1, 0, 100, 0, 3, true, 0, 0⟩, ⟨2, 0, 300, 0, 3, true, 0, 0⟩, ⟨3, 0, 200, 0, 3, true, 0, 0⟩], [2, 0]⟩
def exS3 : Sc := ⟨2, [⟨1, 0, 100, 0, 3, true, 0, 0⟩, ⟨2, 0, 301, 0, 3, true, 0, 0⟩, ⟨3, 0, 200, 0, 3, true, 0, 0⟩], [0, 0]⟩
def exS4 : Sc := ⟨2, [⟨1, 0, 100, 1, 3, true, 0, 0⟩, ⟨2, 0, 301, 0, 3, true, 0, 0⟩, ⟨3, 0, 200, 1, 3, true, 0, 0⟩], [0, 0]⟩
def exS5 : Sc := ⟨1, [], [0]⟩
theorem ex_right : rightS exS = true := by kernel_rfl
theorem ex_pull : pullV exS 1 = ((2, 0, 1), 0) := by kernel_rfl
theorem ex_plan : planV exS 9 = (exS1, [(2, 0, 1)], 0) := by kernel_rfl
theorem ex_right1 : rightS exS1 = true := by kernel_rfl
theorem ex_plan2 : (planV exS2 9).2 = ([(3, 0, 1), (1, 0, 1)], 0) := by kernel_rfl
theorem ex_plan3 : planV exS3 9 = (exS4, [(3, 0, 1), (1, 0, 1)], 0) := by kernel_rfl
theorem ex_right4 : rightS exS4 = true := by kernel_rfl
theorem ex_busy : busyN exS5 0 = 0 ∧ busyE exS5 0 = 6 := ⟨by kernel_rfl, by kernel_rfl⟩
theorem ex_loads : loadV exS.ts 0 = 600 ∧ loadV exS.ts 1 = 0 ∧ loadV exS1.ts 0 = 300 ∧ loadV exS1.ts 1 = 300 ∧ loadV exS4.ts 0 = 301 ∧ loadV exS4.ts 1 = 300 := ⟨by kernel_rfl, by kernel_rfl, by kernel_rfl, by kernel_rfl, by kernel_rfl, by kernel_rfl⟩
/-- A row of loads reads as the numbers. -/
theorem Row.ints {w : World} {b n : Nat} {f : Nat → Int} {zs : List Int} (h : Row w b n (fun c => .int .i64 (f c))) (e : ∀ i, i < n → f i = zs.getD i 0) : IsInts w .i64 (some ⟨b, 0, none⟩) n zs := by
  intro i hi
  refine ⟨b, 0, rfl, h.lt, ?_⟩
  rw [Nat.zero_add, h.cells i hi, e i hi]
end Go.Proofs.Yticgdfbknaholaa
