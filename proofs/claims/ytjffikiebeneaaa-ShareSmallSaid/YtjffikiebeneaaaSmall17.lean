/-
  The contract of the laws' own 'small'.
-/
import Derived.Test.YtjffikiebeneaaaRefOv17
namespace Go.Proofs.Ytjffikiebeneaaa
open Go.RowKit

theorem sm_of {n d : Int} (n0 : 0 ≤ n) (n1 : n ≤ 65535) (d0 : 0 ≤ d) (d1 : d ≤ 65535) : ofE n (1 + d) = 0 ∧ Sm 65536 (ofN n (1 + d)) (ofD n (1 + d)) ∧ ofN n (1 + d) * (1 + d) = n * ofD n (1 + d) :=
  of_small n0 (by omega) (by omega) (by omega) (by decide)
set_option maxHeartbeats 400000 in
theorem small_any {n d : Int} (W : World) (n0 : 0 ≤ n) (n1 : n ≤ 65535) (d0 : 0 ≤ d) (d1 : d ≤ 65535) :
    Calls Try.prog 13 #[.int .u16 n, .int .u16 d] W fun e w' => e = .returned (.tuple #[shr (ofN n (1 + d)) (ofD n (1 + d)), .bool true]) ∧ GrewS W w' := by
  have H3' := fun W => of_any (n := n) (d := 1 + d) W (by omega) (by omega)
  rw [(sm_of n0 n1 d0 d1).1] at H3'
  generalize ofN n (1 + d) = x at *
  generalize ofD n (1 + d) = y at *
  have H3 := fun W => Lib.hid (H3' W)
  clear H3'
  go_enter Try.func13, Try.ntmps13
  go_wp2_with fail
  (with_reducible refine (H3 _).out.mono ?_)
  rintro e w1 ⟨rfl, hg⟩
  have R : C2 w1 W.heap.size (.int .i64 0) (.int .i64 0) := (C2.new W _ _ _).kp hg.kp
  have F : Fz w1 W.heap.size := (Fz.new W _ _).kp hg.kp
  have HG : GrewS W w1 := ((GrewS.refl W).alloc _).trans hg
  clear hg
  have R0 := R.c0
  have R1 := R.c1
  have Rl := R.lt
  have F2 := F.2
  go_wp2_with fail
  exact bodyPost_ret (v := .tuple #[shr x y, .bool true]) (by simp [results, Try.results13, go_sem, R0, R1, Rl]) rfl ⟨rfl, by repeat with_reducible first | exact HG | apply GrewS.alloc | (refine GrewS.setCell ?_ (by first | (simp; done) | (simp; omega)) _)⟩
end Go.Proofs.Ytjffikiebeneaaa
