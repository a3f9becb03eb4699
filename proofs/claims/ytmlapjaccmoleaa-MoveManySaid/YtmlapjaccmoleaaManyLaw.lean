/-
  The law MoveMany, from the walk of 'many'.
-/
import Derived.Test.YtmlapjaccmoleaaManyW
import Derived.Test.YtmlapjaccmoleaaThrough
namespace Go.Proofs.Ytmlapjaccmoleaa
open Go.RowKit

set_option maxRecDepth 100000 in
set_option maxHeartbeats 1000000 in
theorem law16 {W : World} (A : Option Addr) (ca : Nat) (es : List E3) (hca : es.length ≤ ca) (_ : (ca : Int) ≤ 9223372036854775807) (hnA : A = none → ca = 0) (hiA : IsEnts W A es.length es) (hE : EBs es)
    (B : Option Addr) (lb cb : Nat) (fs : List Int) (hlb : fs.length = lb) (hcb : lb ≤ cb) (_ : (cb : Int) ≤ 9223372036854775807) (hnB : B = none → cb = 0) (hiB : IsInts W .u64 B lb fs) (hw : ∀ n ∈ fs, (Lit.int .u64 n).wf = true) :
    Calls Try.prog 16 #[.slice A es.length ca, .slice B lb cb] W fun e w' => e = .returned (.bool true) ∧ Kp W.heap.size W w' := by
  have HA := fun W => Lib.hid (awakeM_any W)
  by_cases h1 : 20 < es.length
  · have h1' : (20 : Int) < es.length := by omega
    clear hiA hE h1 hnA hnB hlb hiB hw hca hcb
    go_enter Try.func16, Try.ntmps16
    go_wp2_with fail
    refine (HA _).out.mono ?_
    rintro e w1 ⟨rfl, hg1⟩
    go_wp2_with fail
    go_ret
    exact ⟨rfl, hg1.kp⟩
  · have h1' : ¬ (20 : Int) < es.length := by omega
    by_cases h2 : 20 < lb
    · have h2' : (20 : Int) < lb := by omega
      clear hiA hE h1 hnA hnB hlb hiB hw hca hcb h2
      go_enter Try.func16, Try.ntmps16
      go_wp2_with fail
      refine (HA _).out.mono ?_
      rintro e w1 ⟨rfl, hg1⟩
      go_wp2_with fail
      go_ret
      exact ⟨rfl, hg1.kp⟩
    · have h2' : ¬ (20 : Int) < lb := by omega
      have H := Lib.hid (many_any W A es.length ca es B lb cb fs rfl (by omega) (fun h => ⟨hnA h, by have := hnA h; omega⟩) hiA hE hlb (by omega) (fun h => ⟨hnB h, by have := hnB h; omega⟩) hiB (u64s_wf hw))
      clear hiA hE h1 hnA hnB hlb hiB hw hca hcb h2
      go_enter Try.func16, Try.ntmps16
      go_wp2_with fail
      refine H.out.mono ?_
      rintro e w1 ⟨rfl, hk1⟩
      go_wp2_with fail
      refine (HA _).out.mono ?_
      rintro e w2 ⟨rfl, hg1⟩
      go_wp2_with fail
      go_ret
      exact ⟨rfl, hk1.trans (hg1.kp.mono hk1.size)⟩
end Go.Proofs.Ytmlapjaccmoleaa
