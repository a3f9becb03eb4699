/-
  The law PlaceWakes, from its walk.
-/
import Derived.Test.YtmlapjaccmoleaaWakes
namespace Go.Proofs.Ytmlapjaccmoleaa
open Go.RowKit

theorem law5 {v r w v2 r2 w2 : Int} {W : World} (b1 : EB v r w) (b2 : EB v2 r2 w2) (f : Int) (wf : (Lit.int .u64 f).wf = true) (c : Int) (wc : (Lit.int .u64 c).wf = true) (m : Int) (wm : (Lit.int .u64 m).wf = true) :
    Calls Try.prog 5 #[ent v r w, ent v2 r2 w2, .int .u64 f, .int .u64 c, .int .u64 m] W fun e w' => e = .returned (.bool true) ∧ Kp W.heap.size W w' := by
  have hf := bounds_u64 wf
  have hc := bounds_u64 wc
  have hm := bounds_u64 wm
  rcases Int.lt_or_le c m with h | h
  · exact (walk5_0 (X := m) W (Or.inl ⟨h, rfl⟩) b1 b2 hf.1 hf.2 hc.1 hc.2 hm.1 hm.2 (by omega)).mono fun _ _ ⟨he, hw⟩ => ⟨he, hw.kp⟩
  · exact (walk5_0 (X := c) W (Or.inr ⟨h, rfl⟩) b1 b2 hf.1 hf.2 hc.1 hc.2 hc.1 hc.2 (Int.le_refl _)).mono fun _ _ ⟨he, hw⟩ => ⟨he, hw.kp⟩
end Go.Proofs.Ytmlapjaccmoleaa
