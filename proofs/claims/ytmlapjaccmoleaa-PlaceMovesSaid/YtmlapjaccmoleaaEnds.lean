/-
  The contract of PlaceMoves' function 'ends'.
-/
import Derived.Test.YtmlapjaccmoleaaMade
import Derived.Test.YtmlapjaccmoleaaPlain
import Derived.Test.YtmlapjaccmoleaaCells3
namespace Go.Proofs.Ytmlapjaccmoleaa
open Go.RowKit

theorem ends_any {v r w f t : Int} (W : World) (b : EB v r w) (f0 : 0 ≤ f) (f1 : f ≤ 18446744073709551615) (t0 : 0 ≤ t) (t1 : t ≤ 18446744073709551615) (p q : Nat)
    (hp : At W ⟨p, 0, none⟩ (.int .u64 f)) (hq : At W ⟨q, 0, none⟩ (.int .u64 t)) :
    Calls Try.prog 26 #[ent v r w, .pointer (some ⟨p, 0, none⟩), .pointer (some ⟨q, 0, none⟩)] W fun e w' => e = .returned (.bool (endB v f t)) ∧ Grew 1 W w' := by
  have p1 := hp.1
  have p2 : p < W.heap.size := hp.2
  have q1 := hq.1
  have q2 : q < W.heap.size := hq.2
  have v0 := b.v0
  have v1 := b.v1
  clear b hp hq
  by_cases h : f ≤ v
  · have e : endB v f t = decide (18446744073709551615 - t ≤ v - f) := if_pos h
    rw [e]
    clear e
    go_enter Try.func26, Try.ntmps26
    go_wp2
    go_ret
    exact ⟨rfl, (Grew.zero W).alloc _⟩
  · have e : endB v f t = decide (t < f - v) := if_neg h
    have g : decide (f ≤ v) = false := decide_eq_false h
    rw [e]
    clear e
    go_enter Try.func26, Try.ntmps26
    go_wp2
    go_ret
    exact ⟨rfl, (Grew.zero W).alloc _⟩
end Go.Proofs.Ytmlapjaccmoleaa
