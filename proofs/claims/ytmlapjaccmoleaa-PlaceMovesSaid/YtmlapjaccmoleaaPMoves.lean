/-
  The law PlaceMoves, from its walks.
-/
import Derived.Test.YtmlapjaccmoleaaPM1
import Derived.Test.YtmlapjaccmoleaaPM2
import Derived.Test.YtmlapjaccmoleaaPM3
namespace Go.Proofs.Ytmlapjaccmoleaa
open Go.RowKit

theorem law4 {v r w v2 r2 w2 : Int} {W : World} (b1 : EB v r w) (b2 : EB v2 r2 w2) (f : Int) (wf : (Lit.int .u64 f).wf = true) (t : Int) (wt : (Lit.int .u64 t).wf = true) :
    Calls Try.prog 4 #[ent v r w, ent v2 r2 w2, .int .u64 f, .int .u64 t] W fun e w' => e = .returned (.bool true) ∧ Kp W.heap.size W w' := by
  have hf := bounds_u64 wf
  have ht := bounds_u64 wt
  cases hex : endB v f t with
  | true => exact (pm_1 W b1 b2 hf.1 hf.2 ht.1 ht.2 hex).mono fun _ _ ⟨he, hw⟩ => ⟨he, hw.kp⟩
  | false =>
    cases hey : endB v2 f t with
    | true => exact (pm_2 W b1 b2 hf.1 hf.2 ht.1 ht.2 hex hey).mono fun _ _ ⟨he, hw⟩ => ⟨he, hw.kp⟩
    | false => exact (pm_3 W b1 b2 hf.1 hf.2 ht.1 ht.2 hex hey).mono fun _ _ ⟨he, hw⟩ => ⟨he, hw.kp⟩
end Go.Proofs.Ytmlapjaccmoleaa
