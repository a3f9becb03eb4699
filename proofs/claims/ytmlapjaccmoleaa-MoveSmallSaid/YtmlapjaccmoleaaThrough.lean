/-
  The law MoveThrough, from its walks.
-/
import Derived.Test.YtmlapjaccmoleaaMTb
namespace Go.Proofs.Ytmlapjaccmoleaa
open Go.RowKit

theorem u64s_wf {zs : List Int} (h : ∀ n ∈ zs, (Lit.int .u64 n).wf = true) : U64s zs := by
  intro j
  rw [List.getD_eq_getElem?_getD]
  cases hj : zs[j]? with
  | none => simp
  | some z => exact bounds_u64 (h z (List.mem_of_getElem? hj))
theorem law12 {v r w : Int} {W : World} (b : EB v r w) (A : Option Addr) (len cap : Nat) (zs : List Int) (_ : zs.length = len) (hc : len ≤ cap) (hm : (cap : Int) ≤ 9223372036854775807) (_ : A = none → cap = 0)
    (hi : IsInts W .u64 A len zs) (hw : ∀ n ∈ zs, (Lit.int .u64 n).wf = true) (a : Int) (wa : (Lit.int .u8 a).wf = true) :
    Calls Try.prog 12 #[ent v r w, .slice A len cap, .int .u8 a] W fun e w' => e = .returned (.bool true) ∧ Kp W.heap.size W w' := by
  have hf := u64s_wf hw
  have ha := bounds_u8 wa
  by_cases h2 : len < 2
  · exact (mt_short W b A len cap zs h2 hc hm hi hf a).mono fun _ _ ⟨he, hw⟩ => ⟨he, hw.kp⟩
  · obtain ⟨bb, off, rfl, _⟩ := hi 0 (by omega)
    by_cases h : len < 20
    · exact (mt_long W b bb off len cap len zs (by omega) (by omega) (Or.inl rfl) hc hm hi hf a ha.1 ha.2).mono fun _ _ ⟨he, hw⟩ => ⟨he, hw.kp⟩
    · exact (mt_long W b bb off len cap 20 zs (by omega) (by omega) (Or.inr ⟨rfl, by omega⟩) hc hm hi hf a ha.1 ha.2).mono fun _ _ ⟨he, hw⟩ => ⟨he, hw.kp⟩
end Go.Proofs.Ytmlapjaccmoleaa
