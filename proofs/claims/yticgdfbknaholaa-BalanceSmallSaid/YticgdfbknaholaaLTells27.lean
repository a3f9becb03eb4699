/-
  The law that tells: any scene.
-/
import Derived.Test.YticgdfbknaholaaTells27
import Derived.SizedLaws
namespace Go.Proofs.Yticgdfbknaholaa
open Go.RowKit Go.ChangeShapes Go.WideShapes Go.Joins Go.Deep

set_option maxRecDepth 100000 in
/-- How long the lists of a scene are that comes in. -/
theorem sc_sized {H : Type} {enc : TypeId × Value → H} {W : World} {v : Value} {d : DataW H} {p : List MemPlace} {b : Nat}
    (hv : Value.okWide Try.prog W .any b 30 v) (hj : DataW.Trod enc Try.prog W 0 (fun _ => true) true 30 v d p) (hw : ∀ n ∈ d.weights Try.prog 30, n ≤ reachBytes)
    {n : Value} {A B : Option Addr} {la ca lb cb : Nat} (e : v = .agg #[n, .slice A la ca, .slice B lb cb]) : lb * 8 ≤ 140737488355328 := by
  obtain ⟨c0, c1, c2, y0, y1, y2, n, he, rfl, _, hy0, hy1, hy2⟩ := open_agg3 Try.underlying30 (by kernel_rfl) cells30 hv hj
  rw [e] at he
  simp only [Value.agg.injEq, Array.mk.injEq, List.cons.injEq, and_true] at he
  obtain ⟨rfl, rfl, rfl⟩ := he
  rcases open_slice Try.underlying28 hy2 with ⟨hcs, hx⟩ | ⟨a, len, cap, m, n, D, Pl, hcs, _, hl, hm, hmm, hx, _⟩
  · simp only [List.cons.injEq, and_true, Value.slice.injEq] at hcs
    omega
  · simp only [List.cons.injEq, and_true, Value.slice.injEq] at hcs
    obtain ⟨-, rfl, rfl⟩ := hcs
    have h8 : Try.prog.bytesOf 3 = 8 := by kernel_rfl
    have := hw ((((List.range lb).map D).length + ((List.range (m - lb)).map fun j => D (lb + j)).length) * Try.prog.bytesOf 3) (by
      simp only [DataW.weights, Try.underlying30]
      refine DataW.weights_mem_each (j := 2) (t := 28) (d := y2.1) rfl rfl _ ?_
      rw [hx]
      simp only [DataW.weights, Try.underlying28]
      exact List.mem_cons_self)
    rw [h8, List.length_map, List.length_range] at this
    unfold reachBytes at this
    omega
set_option maxRecDepth 100000 in
theorem open_mv' {H : Type} {enc : TypeId × Value → H} {W : World} {v : Value} {d : DataW H} {p : List MemPlace} {b : Nat}
    (hv : Value.okWide Try.prog W .any b 38 v) (hj : DataW.Trod enc Try.prog W 0 (fun _ => true) true 38 v d p) :
    ∃ k x y : Int, v = .agg #[.int .i64 k, .int .i64 x, .int .i64 y] := by
  obtain ⟨c0, c1, c2, y0, y1, y2, n, rfl, _, _, hy0, hy1, hy2⟩ := open_agg3 Try.underlying38 (by kernel_rfl) (show Try.prog.cellsOf 38 = 3 by kernel_rfl) hv hj
  obtain ⟨x0, e0, _, _⟩ := DataW.trod_int Try.underlying3 hy0
  obtain ⟨x1, e1, _, _⟩ := DataW.trod_int Try.underlying3 hy1
  obtain ⟨x2, e2, _, _⟩ := DataW.trod_int Try.underlying3 hy2
  simp only [List.cons.injEq, and_true] at e0 e1 e2
  subst e0 e1 e2
  exact ⟨_, _, _, rfl⟩
set_option maxRecDepth 100000 in
set_option maxHeartbeats 4000000 in
theorem law7 {W : World} {A B : Option Addr} {la ca lb cb : Nat} {s : Sc} {cpu k x y most : Int} (hla : s.ts.length = la) (hlb : s.cur.length = lb) (ht : IsTks W A la s.ts) (hc : IsInts W .i64 B lb s.cur) (hok : ∀ t ∈ s.ts, t.ok)
    (hA : A = none → ca = 0) (hB : B = none → cb = 0) (h8 : lb * 8 ≤ 140737488355328) (q0 : -9223372036854775808 ≤ cpu) (q1 : cpu ≤ 9223372036854775807) :
    Calls Try.prog 7 #[.agg #[.int .i64 s.n, .slice A la ca, .slice B lb cb], .int .i64 cpu, .agg #[.int .i64 k, .int .i64 x, .int .i64 y], .int .i64 most] W fun e w' => e = .returned (.bool true) ∧ Kp W.heap.size W w' := by
  have HAw := fun w => Lib.hid (awake_any w)
  have HT := Lib.hid (fun (w : World) (g : Kp W.heap.size W w) (h6 : la ≤ 60) (hm : most ≤ 200) => tells_any (ca := ca) (cb := cb) (k := k) (x := x) (y := y) w (ScAt.kp (w := W) ⟨hla, hlb, ht, hc, hok, by omega, by omega⟩ g) hA hB h6 h8 hm q0 q1)
  have k1 := (Kp.refl W.heap.size W).alloc (Nat.le_refl _) (.cells #[.int .i64 s.n, .slice A la ca, .slice B lb cb] 30)
  have k2 := k1.alloc (by simp) (.cells #[.int .i64 k, .int .i64 x, .int .i64 y] 38)
  have hx := (C3.new W (.int .i64 s.n) (.slice A la ca) (.slice B lb cb) 30).alloc (.cells #[.int .i64 k, .int .i64 x, .int .i64 y] 38)
  have hm0 := C3.new (W.alloc (.cells #[.int .i64 s.n, .slice A la ca, .slice B lb cb] 30)) (.int .i64 k) (.int .i64 x) (.int .i64 y) 38
  simp only [World.size_alloc] at hm0
  have X4 := Lib.hid hx
  have X6 := Lib.hid hm0
  have K := Lib.hid k2
  clear ht hc hok hA hB k1 k2 hx hm0 hla hlb h8 q0 q1
  go_enter Try.func7, Try.ntmps7
  go_upto_region 1 with fail
  generalize (W.alloc _).alloc _ = w1 at *
  obtain ⟨b4, hb4⟩ : ∃ b, b = W.heap.size := ⟨_, rfl⟩
  obtain ⟨b6, hb6⟩ : ∃ b, b = W.heap.size + 1 := ⟨_, rfl⟩
  rw [← hb4] at X4
  rw [← hb6] at X6
  rw [← hb6, ← hb4]
  clear hb4 hb6
  obtain ⟨x0, x1, x2, xl⟩ := X4.out
  obtain ⟨y0, y1, y2, yl⟩ := X6.out
  by_cases h6 : (60 : Int) < (la : Int)
  · go_wp2_with fail
    (with_reducible refine (HAw _).out.mono ?_)
    rintro e w2 ⟨rfl, hk⟩
    have K2 := Lib.hid (K.out.trans (hk.mono K.out.size))
    clear hk
    go_wp2_with fail
    go_ret
    exact ⟨rfl, K2.out⟩
  by_cases hm : 200 < most
  · go_wp2_with fail
    (with_reducible refine (HAw _).out.mono ?_)
    rintro e w2 ⟨rfl, hk⟩
    have K2 := Lib.hid (K.out.trans (hk.mono K.out.size))
    clear hk
    go_wp2_with fail
    go_ret
    exact ⟨rfl, K2.out⟩
  have HT2 := Lib.hid (HT.out w1 K.out (by omega) (by omega))
  clear HT
  go_wp2_with fail
  (with_reducible refine HT2.out.mono ?_)
  clear x0 x1 x2 xl y0 y1 y2 yl HT2
  rintro e w2 ⟨rfl, hk⟩
  have K2 := Lib.hid (K.out.trans (hk.mono K.out.size))
  clear hk
  go_wp2_with fail
  (with_reducible refine (HAw _).out.mono ?_)
  rintro e w3 ⟨rfl, hk⟩
  have K3 := Lib.hid (K2.out.trans (hk.mono K2.out.size))
  clear hk
  go_wp2_with fail
  go_ret
  exact ⟨rfl, K3.out⟩
end Go.Proofs.Yticgdfbknaholaa
