/-
  The law PlaceFloors: the plain part (the least V of a list), and Floor on right entities by it.
-/
import Derived.Test.YtmlapjaccmoleaaEntSl
import Derived.Test.YtmlapjaccmoleaaFloor2
import Derived.Test.YtmlapjaccmoleaaAwakeP
import Derived.Test.YtmlapjaccmoleaaMade
import Derived.Test.YtmlapjaccmoleaaMove
namespace Go.Proofs.Ytmlapjaccmoleaa
open Go.RowKit

/-- The least V of a list, or the end. -/
def lvV : List E3 → Int
  | [] => 18446744073709551615
  | e :: es => if e.1 < lvV es then e.1 else lvV es
theorem lvV_bd {es : List E3} (h : EBs es) : 0 ≤ lvV es ∧ lvV es ≤ 18446744073709551615 := by
  induction es with
  | nil => exact ⟨by decide, by decide⟩
  | cons e es ih =>
    have h1 := h e (List.mem_cons_self ..)
    have ih := ih (fun x hx => h x (List.mem_cons_of_mem _ hx))
    have := h1.v0
    have := h1.v1
    unfold lvV
    split <;> omega
theorem lvV_app (es fs : List E3) (hf : lvV fs ≤ 18446744073709551615) : lvV (es ++ fs) = if lvV fs < lvV es then lvV fs else lvV es := by
  induction es with
  | nil =>
    have e : lvV [] = 18446744073709551615 := rfl
    rw [List.nil_append]
    by_cases h : lvV fs < lvV []
    · rw [if_pos h]
    · rw [if_neg h]; omega
  | cons e es ih =>
    simp only [List.cons_append, lvV, ih]
    repeat' split
    all_goals omega
theorem lvV_one (e : E3) (h : e.1 ≤ 18446744073709551615) : lvV [e] = e.1 := by
  have e2 : lvV [] = 18446744073709551615 := rfl
  show (if e.1 < lvV [] then e.1 else lvV []) = e.1
  by_cases h2 : e.1 < lvV []
  · rw [if_pos h2]
  · rw [if_neg h2]; omega
theorem lvV_take {es : List E3} (hE : EBs es) : ∀ k, k < es.length → minV es k = lvV (es.take (k + 1))
  | 0, h => by
    have h1 := (hE.at h).v1
    rw [take_snocE es 0 h, List.take_zero, List.nil_append, lvV_one _ h1]
    rfl
  | k + 1, h => by
    have h1 := (hE.at h).v1
    have ih := lvV_take hE k (by omega)
    rw [take_snocE es (k + 1) h, lvV_app _ _ (by rw [lvV_one _ h1]; exact h1), lvV_one _ h1, ← ih]
    rfl
/-- What Floor gives of a list that is not empty. -/
def flW (f L : Int) : Int := if f < L then L else f
theorem floor_of {f : Int} (W : World) (A : Option Addr) (n cap : Nat) (es : List E3) (hl : es.length = n) (h0 : 0 < n) (hm : n ≤ 100) (hc : IsEnts W A n es) (hE : EBs es) (hg : es.all rightE = true) :
    Calls Try.prog 32 #[.int .u64 f, .slice A n cap] W fun e w' => e = .returned (.tuple #[.int .u64 (flW f (lvV es)), .int .i64 0]) ∧ GrewS W w' := by
  subst hl
  refine (floor_any (f := f) W A cap es (by omega) hc hE).mono fun e w' ⟨he, hw⟩ => ⟨he.trans (retUI ?_ ?_), hw⟩
  · rw [hg, iff_t, flV, if_neg (by omega), lvV_take hE _ (by omega), show es.length - 1 + 1 = es.length by omega, List.take_length]
    rfl
  · rw [flE, hg]; rfl
/-- The entities that the law makes of numbers. -/
def mkQ (zs : List Int) (i : Nat) : E3 := (zs.getD i 0, mdR (zs.getD i 0) i (IntKind.u16.wrap (zs.getD i 0)), 1 + i)
def qsV (zs : List Int) (n : Nat) : List E3 := (List.range n).map (mkQ zs)
theorem qsV_len (zs : List Int) (n : Nat) : (qsV zs n).length = n := by simp [qsV]
theorem qsV_succ (zs : List Int) (n : Nat) : qsV zs (n + 1) = qsV zs n ++ [mkQ zs n] := by
  unfold qsV
  rw [List.range_succ, List.map_append]
  rfl
theorem qsV_ok {zs : List Int} (hz : ∀ j, 0 ≤ zs.getD j 0 ∧ zs.getD j 0 ≤ 18446744073709551615) {n : Nat} (hn : n ≤ 60000) : EBs (qsV zs n) ∧ (qsV zs n).all rightE = true := by
  constructor
  · intro e he
    obtain ⟨i, hi, rfl⟩ := List.mem_map.1 he
    have := List.mem_range.1 hi
    exact mdR_eb (hz i).1 (hz i).2 (by omega) (by omega)
  · rw [List.all_eq_true]
    intro e he
    obtain ⟨i, hi, rfl⟩ := List.mem_map.1 he
    have := List.mem_range.1 hi
    exact mdR_right (by omega) (by omega)
end Go.Proofs.Ytmlapjaccmoleaa
