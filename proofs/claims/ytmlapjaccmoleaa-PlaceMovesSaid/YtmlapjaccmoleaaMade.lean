/-
  The contracts of layer 23's 'Made' and 'far'; the laws PlaceBegins and PlaceDistance, walked.
-/
import Derived.Test.YtmlapjaccmoleaaTellsP
namespace Go.Proofs.Ytmlapjaccmoleaa
open Go.RowKit

/-- The rest that 'Made' gives. -/
def mdR (v m r : Int) : Int := if v < 18446744073709551615 then r % (1 + m) else 0
theorem mdR_b {v m r : Int} (m0 : 0 ≤ m) : 0 ≤ mdR v m r ∧ mdR v m r < 1 + m := by
  unfold mdR
  split
  · exact ⟨Int.emod_nonneg _ (by omega), Int.emod_lt_of_pos _ (by omega)⟩
  · omega
theorem mdR_eb {v m r : Int} (v0 : 0 ≤ v) (v1 : v ≤ 18446744073709551615) (m0 : 0 ≤ m) (m1 : m ≤ 65535) : EB v (mdR v m r) (1 + m) := by
  have := mdR_b (v := v) (r := r) m0
  exact ⟨v0, v1, this.1, by omega, by omega, by omega⟩
theorem mdR_right {v m r : Int} (m0 : 0 ≤ m) (m1 : m ≤ 65535) : rightB v (mdR v m r) (1 + m) = true := by
  have := mdR_b (v := v) (r := r) m0
  refine rightB_mk (by omega) (by omega) this.2 ?_
  by_cases h : v < 18446744073709551615
  · exact Or.inl h
  · exact Or.inr (by unfold mdR; rw [if_neg h])

theorem made_any {v m r : Int} (W : World) (m0 : 0 ≤ m) (m1 : m ≤ 65535) (r0 : 0 ≤ r) (r1 : r ≤ 65535) :
    Calls Try.prog 23 #[.int .u64 v, .int .u16 m, .int .u16 r] W fun e w' => e = .returned (ent v (mdR v m r) (1 + m)) ∧ Grew 2 W w' := by
  by_cases h : v < 18446744073709551615
  · have e : mdR v m r = r % (1 + m) := if_pos h
    have hb := mdR_b (v := v) (r := r) m0
    rw [e] at hb ⊢
    clear e
    go_enter Try.func23, Try.ntmps23
    go_wp2
    exact bodyPost_ret (v := ent v (r % (1 + m)) (1 + m)) (by simp [results, Try.results23, go_sem]) rfl ⟨rfl, [_, _], 0, rfl, rfl⟩
  · have e : mdR v m r = 0 := if_neg h
    rw [e]
    have g : decide (v < 18446744073709551615) = false := decide_eq_false h
    clear e h
    go_enter Try.func23, Try.ntmps23
    go_wp2
    exact bodyPost_ret (v := ent v 0 (1 + m)) (by simp [results, Try.results23, go_sem]) rfl ⟨rfl, [_, _], 0, rfl, rfl⟩

theorem far_any {a b : Int} (W : World) (a0 : 0 ≤ a) (a1 : a ≤ 18446744073709551615) (b0 : 0 ≤ b) (b1 : b ≤ 18446744073709551615) :
    Calls Try.prog 27 #[.int .u64 a, .int .u64 b] W fun e w' => e = .returned (.int .u64 (ahV a b)) ∧ W = w' := by
  by_cases h : a ≤ b
  · have e : ahV a b = b - a := by unfold ahV lessV; split <;> split <;> omega
    rw [e]
    clear e
    go_enter Try.func27, Try.ntmps27
    go_wp2
    all_goals
      go_ret
      exact ⟨congrArg (fun n => Ending.returned (.int .u64 n)) (by omega), rfl⟩
  · have e : ahV a b = a - b := by unfold ahV lessV; split <;> split <;> omega
    rw [e]
    clear e
    go_enter Try.func27, Try.ntmps27
    go_wp2
    all_goals
      go_ret
      exact ⟨congrArg (fun n => Ending.returned (.int .u64 n)) (by omega), rfl⟩

theorem Kp.frozens {B K : Nat} {w w' : World} (h : Kp B w w') (hK : B = K) : ∀ b o, b < K → w'.frozen? ⟨b, o, none⟩ = w.frozen? ⟨b, o, none⟩ := fun b o hb => h.frozen (p := ⟨b, o, none⟩) (hK ▸ hb)
theorem b6_new {f m : Int} (W : World) (m0 : 0 ≤ m) (m1 : m ≤ 65535) :
    Calls Try.prog 30 #[.int .u64 f, .int .i64 (1 + m)] W fun e w' => e = .returned (.tuple #[ent f 0 (1 + m), .int .i64 0]) ∧ Grew 3 W w' := new_t W (by omega) (by omega)
theorem b6_eb {f m : Int} (f0 : 0 ≤ f) (f1 : f ≤ 18446744073709551615) (m0 : 0 ≤ m) (m1 : m ≤ 65535) : EB f 0 (1 + m) := ⟨f0, f1, by omega, by omega, by omega, by omega⟩
theorem b6_r {f m : Int} (m0 : 0 ≤ m) (m1 : m ≤ 65535) : rightB f 0 (1 + m) = true := rightB_mk (by omega) (by omega) (by omega) (Or.inr rfl)
theorem b6_woken {f c m : Int} (W : World) (f0 : 0 ≤ f) (f1 : f ≤ 18446744073709551615) (c0 : 0 ≤ c) (c1 : c ≤ 18446744073709551615) (m0 : 0 ≤ m) (m1 : m ≤ 65535) :
    Calls Try.prog 28 #[ent f 0 (1 + m), .int .u64 f, .int .u64 c] W fun e w' => e = .returned (.tuple #[ent f 0 (1 + m), .int .i64 0]) ∧ Grew 3 W w' := by
  have h := woken_t W f0 f1 c0 c1 (b6_eb f0 f1 m0 m1) (b6_r (f := f) m0 m1)
  have e1 : wkV f f c = f := by unfold wkV lessV; split <;> split at * <;> omega
  have e2 : wkR f 0 f c = 0 := by unfold wkR; split <;> rfl
  rw [e1, e2] at h
  exact h
theorem b6_moved {f t m : Int} (W : World) (f0 : 0 ≤ f) (f1 : f ≤ 18446744073709551615) (c0 : 0 ≤ t) (c1 : t ≤ 18446744073709551615) (m0 : 0 ≤ m) (m1 : m ≤ 65535) :
    Calls Try.prog 24 #[ent f 0 (1 + m), .int .u64 f, .int .u64 t] W fun e w' => e = .returned (.tuple #[ent t 0 (1 + m), .int .i64 0]) ∧ Grew 3 W w' := by
  have h := moved_t W (b6_eb f0 f1 m0 m1) f0 f1 c0 c1 (b6_r (f := f) m0 m1)
  have e1 : mvV f f t = t := by
    unfold mvV andV lessV
    repeat' split
    all_goals omega
  have e2 : mvR f 0 f t = 0 := by unfold mvR; split <;> rfl
  rw [e1, e2] at h
  exact h
theorem b6_ahead {f m : Int} (W : World) (f0 : 0 ≤ f) (f1 : f ≤ 18446744073709551615) (m0 : 0 ≤ m) (m1 : m ≤ 65535) :
    Calls Try.prog 31 #[ent f 0 (1 + m), .int .u64 f] W fun e w' => e = .returned (.tuple #[.int .u64 0, .bool true, .int .i64 0]) ∧ Grew 2 W w' := by
  have h := ahead_t W (b6_eb f0 f1 m0 m1) f0 f1 (b6_r (f := f) m0 m1)
  have e1 : ahV f f = 0 := by unfold ahV lessV; split <;> omega
  rw [e1, decide_eq_true (Int.le_refl f)] at h
  exact h

set_option maxRecDepth 100000 in
set_option maxHeartbeats 1000000 in
theorem walk6 {f o c m : Int} (W : World) (f0 : 0 ≤ f) (f1 : f ≤ 18446744073709551615) (o0 : 0 ≤ o) (o1 : o ≤ 18446744073709551615) (c0 : 0 ≤ c) (c1 : c ≤ 18446744073709551615) (m0 : 0 ≤ m) (m1 : m ≤ 65535) :
    Calls Try.prog 6 #[.int .u64 f, .int .u64 o, .int .u64 c, .int .u16 m] W fun e w' => e = .returned (.bool true) ∧ GrewS W w' := by
  have HA := Lib.hid (awakeP_any W)
  have H1 := fun W => Lib.hid (b6_new (f := f) W m0 m1)
  have H2 := fun W => Lib.hid (b6_woken W f0 f1 c0 c1 m0 m1)
  have H3 := fun W => Lib.hid (b6_moved W f0 f1 o0 o1 m0 m1)
  have H4 := fun W => Lib.hid (b6_ahead W f0 f1 m0 m1)
  have H5 := fun W => Lib.hid (b6_new (f := o) W m0 m1)
  have H6 := fun W => Lib.hid (right_t W (b6_r (f := f) m0 m1))
  clear f0 f1 o0 o1 c0 c1
  go_enter Try.func6, Try.ntmps6
  go_wp2_with fail
  refine HA.out.mono ?_
  rintro e w0 ⟨rfl, hg⟩
  have hg := Lib.hid hg
  go_wp2_with fail
  refine ((H1 _).out).mono ?_
  rintro e w' ⟨rfl, os1, k1, hl1, rfl⟩
  go_wp2_with fail
  refine ((H2 _).out).mono ?_
  rintro e w' ⟨rfl, os2, k2, hl2, rfl⟩
  go_wp2_with fail
  refine ((H3 _).out).mono ?_
  rintro e w' ⟨rfl, os3, k3, hl3, rfl⟩
  go_wp2_with fail
  refine ((H4 _).out).mono ?_
  rintro e w' ⟨rfl, os4, k4, hl4, rfl⟩
  go_wp2_with fail
  refine ((H5 _).out).mono ?_
  rintro e w' ⟨rfl, os5, k5, hl5, rfl⟩
  go_wp2_with fail
  refine ((H6 _).out).mono ?_
  rintro e w' ⟨rfl, rfl⟩
  go_wp2_with fail
  go_ret
  refine ⟨rfl, hg.out.trans ?_⟩
  repeat first | exact GrewS.refl _ | apply GrewS.drewN | apply GrewS.more | apply GrewS.alloc

theorem mv_eb {v r w f t : Int} (b : EB v r w) (t0 : 0 ≤ t) (t1 : t ≤ 18446744073709551615) : EB (mvV v f t) (mvR v r f t) w := by
  have h1 := b.v0
  have h2 := b.v1
  have h3 := b.r0
  have h4 := b.r1
  have e : 0 ≤ mvV v f t ∧ mvV v f t ≤ 18446744073709551615 := by unfold mvV andV lessV; split <;> split <;> omega
  have e2 : 0 ≤ mvR v r f t ∧ mvR v r f t ≤ 4294967295 := by unfold mvR; split <;> omega
  exact ⟨e.1, e.2, e2.1, e2.2, b.w0, b.w1⟩
theorem mv_right {v r w f t : Int} (b : EB v r w) (t0 : 0 ≤ t) (t1 : t ≤ 18446744073709551615) (h : rightB v r w = true) : rightB (mvV v f t) (mvR v r f t) w = true := by
  obtain ⟨h1, h2, h3, h4⟩ := rightB_of h
  have h5 := (mv_eb (f := f) b t0 t1).v1
  have h6 := b.r0
  refine rightB_mk h1 h2 (by unfold mvR; split <;> omega) ?_
  by_cases h : mvV v f t = 18446744073709551615
  · exact Or.inr (by unfold mvR; rw [if_pos h])
  · exact Or.inl (by omega)
theorem mv_far {v f t : Int} (t0 : 0 ≤ t) (t1 : t ≤ 18446744073709551615) : ahV (mvV v f t) t ≤ ahV v f := by
  unfold ahV mvV andV lessV
  repeat' split
  all_goals omega
theorem mv_far2 {v f t : Int} (t0 : 0 ≤ t) (t1 : t ≤ 18446744073709551615) (h0 : mvV v f t ≠ 0) (h1 : mvV v f t ≠ 18446744073709551615) : ahV (mvV v f t) t = ahV v f ∧ (f ≤ v ↔ t ≤ mvV v f t) := by
  revert h0 h1
  unfold ahV mvV andV lessV
  repeat' split
  all_goals omega

theorem law6 {W : World} (f : Int) (wf : (Lit.int .u64 f).wf = true) (o : Int) (wo : (Lit.int .u64 o).wf = true) (c : Int) (wc : (Lit.int .u64 c).wf = true) (m : Int) (wm : (Lit.int .u16 m).wf = true) :
    Calls Try.prog 6 #[.int .u64 f, .int .u64 o, .int .u64 c, .int .u16 m] W fun e w' => e = .returned (.bool true) ∧ Kp W.heap.size W w' :=
  (walk6 W (bounds_u64 wf).1 (bounds_u64 wf).2 (bounds_u64 wo).1 (bounds_u64 wo).2 (bounds_u64 wc).1 (bounds_u64 wc).2 (bounds_u16 wm).1 (bounds_u16 wm).2).mono fun _ _ ⟨he, hw⟩ => ⟨he, hw.kp⟩
end Go.Proofs.Ytmlapjaccmoleaa
