/-
  The contracts of place's New, Ahead and Gain, and of the reference's, by the same values.
-/
import Derived.Test.YtmlapjaccmoleaaPlace
namespace Go.Proofs.Ytmlapjaccmoleaa
open Go.RowKit

def weB (w : Int) : Bool := decide (1 ≤ w ∧ w ≤ 65536)
theorem weB_true {w : Int} (h3 : 1 ≤ w) (h4 : w ≤ 65536) : weB w = true := decide_eq_true ⟨h3, h4⟩
theorem weB_false {w : Int} (h : w < 1 ∨ 65536 < w) : weB w = false := decide_eq_false (by omega)
def weE (w : Int) : Int := if weB w then 0 else 2

set_option maxHeartbeats 400000 in
theorem new_t {f w : Int} (W : World) (h1 : 1 ≤ w) (h2 : w ≤ 65536) :
    Calls Try.prog 30 #[.int .u64 f, .int .i64 w] W fun e w' => e = .returned (.tuple #[ent f 0 w, .int .i64 0]) ∧ Grew 3 W w' := by
  have H := fun W => Lib.hid (right_t (v := f) (r := 0) (w := w) W (rightB_mk h1 h2 (by omega) (Or.inr rfl)))
  go_enter Try.func30, Try.ntmps30
  go_wp2_with fail
  refine ((H _).out).mono ?_
  rintro e w' ⟨rfl, rfl⟩
  go_wp2_with fail
  exact bodyPost_ret (v := .tuple #[ent f 0 w, .int .i64 0]) (by simp [results, Try.results30, go_sem]) rfl ⟨rfl, [_, _, _], 0, rfl, rfl⟩

set_option maxHeartbeats 400000 in
theorem new_f1 {f w : Int} (W : World) (f0 : 0 ≤ f) (f1 : f ≤ 18446744073709551615) (h0 : 0 ≤ w) (h3 : w ≤ 4294967295) (h : w < 1 ∨ 65536 < w) :
    Calls Try.prog 30 #[.int .u64 f, .int .i64 w] W fun e w' => e = .returned (.tuple #[ent 0 0 0, .int .i64 2]) ∧ Grew 3 W w' := by
  have H := fun W => Lib.hid (right_f (v := f) (r := 0) (w := w) W ⟨f0, f1, by omega, by omega, h0, h3⟩ (decide_eq_false (by omega)))
  clear h
  go_enter Try.func30, Try.ntmps30
  go_wp2_with fail
  refine ((H _).out).mono ?_
  rintro e w' ⟨rfl, rfl⟩
  go_wp2_with fail
  exact bodyPost_ret (v := .tuple #[ent 0 0 0, .int .i64 2]) (by simp [results, Try.results30, go_sem]) rfl ⟨rfl, [_, _, _], 0, rfl, rfl⟩

set_option maxHeartbeats 400000 in
theorem new_f2 {f w : Int} (W : World) (h : w < 0 ∨ 4294967295 < w) :
    Calls Try.prog 30 #[.int .u64 f, .int .i64 w] W fun e w' => e = .returned (.tuple #[ent 0 0 0, .int .i64 2]) ∧ Grew 2 W w' := by
  have g : (w % 4294967296 != w) = true := by
    rw [bne_iff_ne]
    omega
  clear h
  go_enter Try.func30, Try.ntmps30
  go_wp2_with fail
  exact bodyPost_ret (v := .tuple #[ent 0 0 0, .int .i64 2]) (by simp [results, Try.results30, go_sem]) rfl ⟨rfl, [_, _], 0, rfl, rfl⟩

/-- How many blocks New lays. -/
def nwN (w : Int) : Nat := if 0 ≤ w ∧ w ≤ 4294967295 then 3 else 2
theorem new_any {f w : Int} (W : World) (f0 : 0 ≤ f) (f1 : f ≤ 18446744073709551615) :
    Calls Try.prog 30 #[.int .u64 f, .int .i64 w] W fun e w' => e = .returned (.tuple #[ent (iff (weB w) f) 0 (iff (weB w) w), .int .i64 (weE w)]) ∧ Grew (nwN w) W w' := by
  by_cases h1 : 1 ≤ w ∧ w ≤ 65536
  · have hb := weB_true h1.1 h1.2
    have hn : nwN w = 3 := by unfold nwN; rw [if_pos (by omega)]
    rw [hn]
    exact (new_t W h1.1 h1.2).mono fun e w' ⟨he, hw⟩ => ⟨he.trans (retE2 (by rw [hb]; rfl) rfl (by rw [hb]; rfl) (by unfold weE; rw [hb]; rfl)), hw⟩
  · have hb := weB_false (w := w) (by omega)
    by_cases h2 : 0 ≤ w ∧ w ≤ 4294967295
    · have hn : nwN w = 3 := by unfold nwN; rw [if_pos h2]
      rw [hn]
      exact (new_f1 W f0 f1 h2.1 h2.2 (by omega)).mono fun e w' ⟨he, hw⟩ => ⟨he.trans (retE2 (by rw [hb]; rfl) rfl (by rw [hb]; rfl) (by unfold weE; rw [hb]; rfl)), hw⟩
    · have hn : nwN w = 2 := by unfold nwN; rw [if_neg h2]
      rw [hn]
      exact (new_f2 W (by omega)).mono fun e w' ⟨he, hw⟩ => ⟨he.trans (retE2 (by rw [hb]; rfl) rfl (by rw [hb]; rfl) (by unfold weE; rw [hb]; rfl)), hw⟩

set_option maxHeartbeats 400000 in
theorem refNew_any {f w : Int} (W : World) :
    Calls Try.prog 46 #[.int .u64 f, .int .i64 w] W fun e w' => e = .returned (.tuple #[ent (iff (weB w) f) 0 (iff (weB w) w), .int .i64 (weE w)]) ∧ Grew 1 W w' := by
  by_cases h1 : w < 1
  · have hb := weB_false (w := w) (Or.inl h1)
    refine Calls.mono (R := fun e w' => e = .returned (.tuple #[ent 0 0 0, .int .i64 2]) ∧ Grew 1 W w') ?_ fun e w' ⟨he, hw⟩ => ⟨he.trans (retE2 (by rw [hb]; rfl) rfl (by rw [hb]; rfl) (by unfold weE; rw [hb]; rfl)), hw⟩
    have g : decide (1 ≤ w) = false := decide_eq_false (by omega)
    clear hb h1
    go_enter Try.func46, Try.ntmps46
    go_wp2
    exact bodyPost_ret (v := .tuple #[ent 0 0 0, .int .i64 2]) (by simp [results, Try.results46, go_sem]) rfl ⟨rfl, [_], 0, rfl, rfl⟩
  by_cases h2 : 65536 < w
  · have hb := weB_false (w := w) (Or.inr h2)
    refine Calls.mono (R := fun e w' => e = .returned (.tuple #[ent 0 0 0, .int .i64 2]) ∧ Grew 1 W w') ?_ fun e w' ⟨he, hw⟩ => ⟨he.trans (retE2 (by rw [hb]; rfl) rfl (by rw [hb]; rfl) (by unfold weE; rw [hb]; rfl)), hw⟩
    have g : decide (w ≤ 65536) = false := decide_eq_false (by omega)
    have g1 : 1 ≤ w := by omega
    clear hb h1 h2
    go_enter Try.func46, Try.ntmps46
    go_wp2
    exact bodyPost_ret (v := .tuple #[ent 0 0 0, .int .i64 2]) (by simp [results, Try.results46, go_sem]) rfl ⟨rfl, [_], 0, rfl, rfl⟩
  · have g1 : 1 ≤ w := by omega
    have g2 : w ≤ 65536 := by omega
    have hb := weB_true g1 g2
    refine Calls.mono (R := fun e w' => e = .returned (.tuple #[ent f 0 w, .int .i64 0]) ∧ Grew 1 W w') ?_ fun e w' ⟨he, hw⟩ => ⟨he.trans (retE2 (by rw [hb]; rfl) rfl (by rw [hb]; rfl) (by unfold weE; rw [hb]; rfl)), hw⟩
    clear hb h1 h2
    go_enter Try.func46, Try.ntmps46
    go_wp2
    exact bodyPost_ret (v := .tuple #[ent f 0 w, .int .i64 0]) (by simp [results, Try.results46, go_sem]) rfl ⟨rfl, [_], 0, rfl, rfl⟩

/-- How far. -/
def ahV (v f : Int) : Int := lessV v f + lessV f v
theorem ahV_ge {v f : Int} (h : f ≤ v) : ahV v f = v - f := by
  unfold ahV lessV
  rw [if_neg (show ¬ v < f by omega)]
  split <;> omega
theorem ahV_lt {v f : Int} (h : v < f) : ahV v f = f - v := by
  unfold ahV lessV
  rw [if_pos h]
  split <;> omega
def ahB (v f : Int) : Bool := decide (f ≤ v)
theorem retUBI {a a' c c' : Int} {b b' : Bool} (h1 : a = a') (h2 : b = b') (h3 : c = c') : Ending.returned (.tuple #[.int .u64 a, .bool b, .int .i64 c]) = Ending.returned (.tuple #[.int .u64 a', .bool b', .int .i64 c']) := by rw [h1, h2, h3]
def andB (a b : Bool) : Bool := if a then b else false

set_option maxHeartbeats 400000 in
theorem ahead_t {v r w f : Int} (W : World) (b : EB v r w) (f0 : 0 ≤ f) (f1 : f ≤ 18446744073709551615) (h : rightB v r w = true) :
    Calls Try.prog 31 #[ent v r w, .int .u64 f] W fun e w' => e = .returned (.tuple #[.int .u64 (ahV v f), .bool (decide (f ≤ v)), .int .i64 0]) ∧ Grew 2 W w' := by
  have H := fun W => Lib.hid (right_t W h)
  have v0 := b.v0
  have v1 := b.v1
  have L1 := fun W => Lib.hid (show Calls Try.prog 52 #[.int .u64 v, .int .u64 f] W fun e w' => e = .returned (.int .u64 (lessV v f)) ∧ w' = W from (less_any v f W v0 v1 f0 f1).mono fun _ _ ⟨a, c⟩ => ⟨a, c.symm⟩)
  have L2 := fun W => Lib.hid (show Calls Try.prog 52 #[.int .u64 f, .int .u64 v] W fun e w' => e = .returned (.int .u64 (lessV f v)) ∧ w' = W from (less_any f v W f0 f1 v0 v1).mono fun _ _ ⟨a, c⟩ => ⟨a, c.symm⟩)
  have b1 := lessV_bd v1 f0 (a := v) (b := f)
  have b2 := lessV_bd f1 v0 (a := f) (b := v)
  have b3 : lessV v f + lessV f v ≤ 18446744073709551615 := by
    have : ahV v f ≤ 18446744073709551615 := by
      rcases Int.lt_or_le v f with h | h
      · rw [ahV_lt h]; omega
      · rw [ahV_ge h]; omega
    exact this
  unfold ahV
  generalize lessV v f = A at *
  generalize lessV f v = B at *
  obtain ⟨b4, b5⟩ := b1
  obtain ⟨b6, b7⟩ := b2
  have hw := IntWalk.u64_in (A + B) (by omega)
  clear h b
  go_enter Try.func31, Try.ntmps31
  go_wp2_with fail
  refine ((H _).out).mono ?_
  rintro e w' ⟨rfl, rfl⟩
  go_wp2_with fail
  go_quiet (first | (with_reducible exact Calls.quiet_of_same (L1 _).out) | (with_reducible exact Calls.quiet_of_same (L2 _).out))
  go_wp2_with fail
  go_ret3
  exact ⟨rfl, [_, _], _, rfl, rfl⟩

set_option maxHeartbeats 400000 in
theorem ahead_f {v r w f : Int} (W : World) (b : EB v r w) (h : rightB v r w = false) :
    Calls Try.prog 31 #[ent v r w, .int .u64 f] W fun e w' => e = .returned (.tuple #[.int .u64 0, .bool false, .int .i64 2]) ∧ Grew 2 W w' := by
  have H := fun W => Lib.hid (right_f W b h)
  clear h b
  go_enter Try.func31, Try.ntmps31
  go_wp2_with fail
  refine ((H _).out).mono ?_
  rintro e w' ⟨rfl, rfl⟩
  go_wp2_with fail
  go_ret3
  exact ⟨rfl, [_, _], 0, rfl, rfl⟩

theorem ahead_any {v r w f : Int} (W : World) (b : EB v r w) (f0 : 0 ≤ f) (f1 : f ≤ 18446744073709551615) :
    Calls Try.prog 31 #[ent v r w, .int .u64 f] W fun e w' => e = .returned (.tuple #[.int .u64 (iff (rightB v r w) (ahV v f)), .bool (andB (rightB v r w) (ahB v f)), .int .i64 (xE v r w)]) ∧ Grew 2 W w' := by
  cases h : rightB v r w with
  | true => exact (ahead_t W b f0 f1 h).mono fun e w' ⟨he, hw⟩ => ⟨he.trans (retUBI rfl rfl (xE_t h).symm), hw⟩
  | false => exact (ahead_f W b h).mono fun e w' ⟨he, hw⟩ => ⟨he.trans (retUBI rfl rfl (xE_f h).symm), hw⟩

set_option maxHeartbeats 400000 in
theorem refAhead_any {v r w f : Int} (W : World) (b : EB v r w) (f0 : 0 ≤ f) (f1 : f ≤ 18446744073709551615) :
    Calls Try.prog 49 #[ent v r w, .int .u64 f] W fun e w' => e = .returned (.tuple #[.int .u64 (iff (rightB v r w) (ahV v f)), .bool (andB (rightB v r w) (ahB v f)), .int .i64 (xE v r w)]) ∧ Grew 2 W w' := by
  cases h : rightB v r w with
  | true =>
    have H := fun W => Lib.hid (refRight_t W b h)
    have v0 := b.v0
    have v1 := b.v1
    by_cases hf : f ≤ v
    · refine Calls.mono (R := fun e w' => e = .returned (.tuple #[.int .u64 (v - f), .bool true, .int .i64 0]) ∧ Grew 2 W w') ?_ fun e w' ⟨he, hw⟩ => ⟨he.trans (retUBI (ahV_ge hf).symm (decide_eq_true hf).symm (xE_t h).symm), hw⟩
      clear h b
      go_enter Try.func49, Try.ntmps49
      go_wp2_with fail
      refine ((H _).out).mono ?_
      rintro e w' ⟨rfl, rfl⟩
      go_wp2_with fail
      go_ret3
      exact ⟨rfl, [_, _], 0, rfl, rfl⟩
    · have hf' : v < f := by omega
      refine Calls.mono (R := fun e w' => e = .returned (.tuple #[.int .u64 (f - v), .bool false, .int .i64 0]) ∧ Grew 2 W w') ?_ fun e w' ⟨he, hw⟩ => ⟨he.trans (retUBI (ahV_lt hf').symm (decide_eq_false hf).symm (xE_t h).symm), hw⟩
      clear h b hf
      go_enter Try.func49, Try.ntmps49
      go_wp2_with fail
      refine ((H _).out).mono ?_
      rintro e w' ⟨rfl, rfl⟩
      go_wp2_with fail
      go_ret3
      exact ⟨rfl, [_, _], 0, rfl, rfl⟩
  | false =>
    have H := fun W => Lib.hid (refRight_f W b h)
    refine Calls.mono (R := fun e w' => e = .returned (.tuple #[.int .u64 0, .bool false, .int .i64 2]) ∧ Grew 2 W w') ?_ fun e w' ⟨he, hw⟩ => ⟨he.trans (retUBI rfl rfl (xE_f h).symm), hw⟩
    clear h b
    go_enter Try.func49, Try.ntmps49
    go_wp2_with fail
    refine ((H _).out).mono ?_
    rintro e w' ⟨rfl, rfl⟩
    go_wp2_with fail
    go_ret3
    exact ⟨rfl, [_, _], 0, rfl, rfl⟩

theorem retUI {a a' c c' : Int} (h1 : a = a') (h3 : c = c') : Ending.returned (.tuple #[.int .u64 a, .int .i64 c]) = Ending.returned (.tuple #[.int .u64 a', .int .i64 c']) := by rw [h1, h3]

set_option maxRecDepth 100000 in
set_option maxHeartbeats 400000 in
theorem gain_any {v r w f c : Int} (W : World) (b : EB v r w) (f0 : 0 ≤ f) (f1 : f ≤ 18446744073709551615) (c0 : 0 ≤ c) (c1 : c ≤ 18446744073709551615) :
    Calls Try.prog 29 #[ent v r w, .int .u64 f, .int .u64 c] W fun e w' => e = .returned (.tuple #[.int .u64 (iff (rightB v r w) (wkV v f c - v)), .int .i64 (xE v r w)]) ∧ Grew 5 W w' := by
  cases h : rightB v r w with
  | true =>
    have H := fun W => Lib.hid (woken_t (f := f) (c := c) W f0 f1 c0 c1 b h)
    have v0 := b.v0
    have lb := lessV_bd f1 c0 (a := f) (b := c)
    by_cases hv : v < lessV f c
    · have e1 : wkV v f c = lessV f c := by unfold wkV; rw [if_pos hv]
      have e2 : wkR v r f c = 0 := by unfold wkR; rw [if_pos hv]
      refine Calls.mono (R := fun e w' => e = .returned (.tuple #[.int .u64 (wkV v f c - v), .int .i64 0]) ∧ Grew 5 W w') ?_ fun e w' ⟨he, hw⟩ => ⟨he.trans (retUI rfl (xE_t h).symm), hw⟩
      rw [e1, e2] at H
      rw [e1]
      clear e1 e2 h b
      generalize lessV f c = L at *
      obtain ⟨l0, l1⟩ := lb
      have g : (L == v) = false := beq_eq_false_iff_ne.2 (by omega)
      go_enter Try.func29, Try.ntmps29
      go_wp2_with fail
      refine ((H _).out).mono ?_
      rintro e w' ⟨rfl, os, n, hl, rfl⟩
      go_wp2_with fail
      go_ret2
      exact ⟨rfl, ((((Grew.zero _).alloc _).more hl).alloc _).drewN _⟩
    · have e1 : wkV v f c = v := by unfold wkV; rw [if_neg hv]
      have e2 : wkR v r f c = r := by unfold wkR; rw [if_neg hv]
      refine Calls.mono (R := fun e w' => e = .returned (.tuple #[.int .u64 0, .int .i64 0]) ∧ Grew 5 W w') ?_ fun e w' ⟨he, hw⟩ => ⟨he.trans (retUI (by rw [e1]; unfold iff; simp) (xE_t h).symm), hw⟩
      rw [e1, e2] at H
      clear e1 e2 h b lb hv
      go_enter Try.func29, Try.ntmps29
      go_wp2_with fail
      refine ((H _).out).mono ?_
      rintro e w' ⟨rfl, os, n, hl, rfl⟩
      go_wp2_with fail
      go_ret2
      exact ⟨rfl, ((((Grew.zero _).alloc _).more hl).alloc _).drewN _⟩
  | false =>
    have H := fun W => Lib.hid (woken_f (f := f) (c := c) W b h)
    refine Calls.mono (R := fun e w' => e = .returned (.tuple #[.int .u64 0, .int .i64 2]) ∧ Grew 5 W w') ?_ fun e w' ⟨he, hw⟩ => ⟨he.trans (retUI rfl (xE_f h).symm), hw⟩
    clear h b
    go_enter Try.func29, Try.ntmps29
    go_wp2_with fail
    refine ((H _).out).mono ?_
    rintro e w' ⟨rfl, os, n, hl, rfl⟩
    go_wp2_with fail
    go_ret2
    exact ⟨rfl, ((((Grew.zero _).alloc _).more hl).alloc _).drewN _⟩
set_option maxRecDepth 100000 in
set_option maxHeartbeats 400000 in
theorem refGain_any {v r w f c : Int} (W : World) (b : EB v r w) (f0 : 0 ≤ f) (f1 : f ≤ 18446744073709551615) (c0 : 0 ≤ c) (c1 : c ≤ 18446744073709551615) :
    Calls Try.prog 50 #[ent v r w, .int .u64 f, .int .u64 c] W fun e w' => e = .returned (.tuple #[.int .u64 (iff (rightB v r w) (wkV v f c - v)), .int .i64 (xE v r w)]) ∧ Grew 5 W w' := by
  cases h : rightB v r w with
  | true =>
    have H := fun W => Lib.hid (refWoken_t (f := f) (c := c) W f0 f1 c0 c1 b h)
    have v0 := b.v0
    have lb := lessV_bd f1 c0 (a := f) (b := c)
    by_cases hv : v < lessV f c
    · have e1 : wkV v f c = lessV f c := by unfold wkV; rw [if_pos hv]
      have e2 : wkR v r f c = 0 := by unfold wkR; rw [if_pos hv]
      refine Calls.mono (R := fun e w' => e = .returned (.tuple #[.int .u64 (wkV v f c - v), .int .i64 0]) ∧ Grew 5 W w') ?_ fun e w' ⟨he, hw⟩ => ⟨he.trans (retUI rfl (xE_t h).symm), hw⟩
      rw [e1, e2] at H
      rw [e1]
      clear e1 e2 h b
      generalize lessV f c = L at *
      obtain ⟨l0, l1⟩ := lb
      have g : (L == v) = false := beq_eq_false_iff_ne.2 (by omega)
      go_enter Try.func50, Try.ntmps50
      go_wp2_with fail
      refine ((H _).out).mono ?_
      rintro e w' ⟨rfl, os, n, hl, rfl⟩
      go_wp2_with fail
      go_ret2
      exact ⟨rfl, ((((Grew.zero _).alloc _).more hl).alloc _).drewN _⟩
    · have e1 : wkV v f c = v := by unfold wkV; rw [if_neg hv]
      have e2 : wkR v r f c = r := by unfold wkR; rw [if_neg hv]
      refine Calls.mono (R := fun e w' => e = .returned (.tuple #[.int .u64 0, .int .i64 0]) ∧ Grew 5 W w') ?_ fun e w' ⟨he, hw⟩ => ⟨he.trans (retUI (by rw [e1]; unfold iff; simp) (xE_t h).symm), hw⟩
      rw [e1, e2] at H
      clear e1 e2 h b lb hv
      go_enter Try.func50, Try.ntmps50
      go_wp2_with fail
      refine ((H _).out).mono ?_
      rintro e w' ⟨rfl, os, n, hl, rfl⟩
      go_wp2_with fail
      go_ret2
      exact ⟨rfl, ((((Grew.zero _).alloc _).more hl).alloc _).drewN _⟩
  | false =>
    have H := fun W => Lib.hid (refWoken_f (f := f) (c := c) W b h)
    refine Calls.mono (R := fun e w' => e = .returned (.tuple #[.int .u64 0, .int .i64 2]) ∧ Grew 5 W w') ?_ fun e w' ⟨he, hw⟩ => ⟨he.trans (retUI rfl (xE_f h).symm), hw⟩
    clear h b
    go_enter Try.func50, Try.ntmps50
    go_wp2_with fail
    refine ((H _).out).mono ?_
    rintro e w' ⟨rfl, os, n, hl, rfl⟩
    go_wp2_with fail
    go_ret2
    exact ⟨rfl, ((((Grew.zero _).alloc _).more hl).alloc _).drewN _⟩
end Go.Proofs.Ytmlapjaccmoleaa
