/-
  The law ShareTells, walked.
-/
import Derived.Test.YtjffikiebeneaaaTells17
import Derived.OpenShut
namespace Go.Proofs.Ytjffikiebeneaaa
open Go.RowKit

theorem law6 {a b c d : Int} {W : World} (ha : a ≤ 9223372036854775807) (_ : b ≤ 9223372036854775807) (_ : c ≤ 9223372036854775807) (hd : d ≤ 9223372036854775807) (n : Int) (_ : (Lit.int .i64 n).wf = true) :
    Calls Try.prog 6 #[shr a b, shr c d, .int .i64 n] W fun e w' => e = .returned (.bool true) ∧ Kp W.heap.size W w' := by
  have H1 := fun W => Lib.hid (tells_any a b c d n W ha hd)
  have H2 := fun W => Lib.hid (awake_any W)
  clear ha hd
  go_enter Try.func6, Try.ntmps6
  go_wp2_with fail
  (with_reducible refine (H1 _).out.mono ?_)
  rintro e w1 ⟨rfl, hg1⟩
  have HK := Lib.hid ((((GrewS.refl W).alloc _).alloc _).trans hg1).kp
  clear hg1
  go_wp2_with fail
  (with_reducible refine (H2 _).out.mono ?_)
  rintro e w2 ⟨rfl, hk⟩
  have HK2 := Lib.hid (HK.out.trans (hk.mono HK.out.size))
  clear hk
  go_wp2_with fail
  go_ret
  exact ⟨rfl, HK2.out⟩
end Go.Proofs.Ytjffikiebeneaaa
