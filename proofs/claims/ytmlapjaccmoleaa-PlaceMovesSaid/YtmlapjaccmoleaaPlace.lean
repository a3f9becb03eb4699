/-
  The contracts of place's Moved, Woken, New, Ahead and Gain, and of the reference's, by the same values.
-/
import Derived.Test.YtmlapjaccmoleaaKit
namespace Go.Proofs.Ytmlapjaccmoleaa
open Go.RowKit

/-- V and R behind a move. -/
def mvV (v f t : Int) : Int := if f ≤ v then andV t (v - f) else lessV t (f - v)
def mvR (v r f t : Int) : Int := if mvV v f t = 18446744073709551615 then 0 else r
/-- The error of what asks for a right entity; a value if the entity is right. -/
def xE (v r w : Int) : Int := if rightB v r w then 0 else 2
def iff (b : Bool) (n : Int) : Int := if b then n else 0
theorem xE_t {v r w : Int} (h : rightB v r w = true) : xE v r w = 0 := by unfold xE; rw [h]; rfl
theorem xE_f {v r w : Int} (h : rightB v r w = false) : xE v r w = 2 := by unfold xE; rw [h]; rfl
theorem xE_bd (v r w : Int) : 0 ≤ xE v r w ∧ xE v r w ≤ 2 := by unfold xE; split <;> omega
theorem iff_t (n : Int) : iff true n = n := rfl
theorem iff_f (n : Int) : iff false n = 0 := rfl
theorem mvV_bd {v f t : Int} (t0 : 0 ≤ t) (t1 : t ≤ 18446744073709551615) : 0 ≤ mvV v f t ∧ mvV v f t ≤ 18446744073709551615 := by
  unfold mvV
  split
  · exact andV_bd t0 (by omega)
  · exact lessV_bd t1 (by omega)

theorem retE2 {a a' b b' c c' k k' : Int} (h1 : a = a') (h2 : b = b') (h3 : c = c') (h4 : k = k') : Ending.returned (.tuple #[ent a b c, .int .i64 k]) = Ending.returned (.tuple #[ent a' b' c', .int .i64 k']) := by rw [h1, h2, h3, h4]

set_option maxHeartbeats 400000 in
theorem moved_t {v r w f t : Int} (W : World) (b : EB v r w) (f0 : 0 ≤ f) (f1 : f ≤ 18446744073709551615) (t0 : 0 ≤ t) (t1 : t ≤ 18446744073709551615) (h : rightB v r w = true) :
    Calls Try.prog 24 #[ent v r w, .int .u64 f, .int .u64 t] W fun e w' => e = .returned (.tuple #[ent (mvV v f t) (mvR v r f t) w, .int .i64 0]) ∧ Grew 3 W w' := by
  have H := Lib.hid h
  have v0 := b.v0
  have v1 := b.v1
  clear h b
  by_cases hf : f ≤ v
  · have e : mvV v f t = andV t (v - f) := by unfold mvV; rw [if_pos hf]
    have hA := fun W => and_any t (v - f) W t0 t1 (by omega) (by omega)
    rw [← e] at hA
    have HA := fun W => Lib.hid (hA W)
    by_cases he : mvV v f t = 18446744073709551615
    · have eR : mvR v r f t = 0 := by unfold mvR; rw [if_pos he]
      rw [eR]
      clear eR e hA
      generalize mvV v f t = V at *
      have g : (V == 18446744073709551615) = true := beq_iff_eq.2 he
      clear he
      go_enter Try.func24, Try.ntmps24
      go_wp2_with fail
      refine (right_t _ H.out).mono ?_
      rintro e w' ⟨rfl, rfl⟩
      go_wp2_with fail
      refine ((HA _).out).mono ?_
      rintro e w' ⟨rfl, rfl⟩
      go_wp2_with fail
      exact bodyPost_ret (v := .tuple #[ent V 0 w, .int .i64 0]) (by simp [results, Try.results24, go_sem]) rfl ⟨rfl, [_, _, _], 0, rfl, rfl⟩
    · have eR : mvR v r f t = r := by unfold mvR; rw [if_neg he]
      rw [eR]
      clear eR e hA
      generalize mvV v f t = V at *
      have g : (V == 18446744073709551615) = false := beq_eq_false_iff_ne.2 he
      clear he
      go_enter Try.func24, Try.ntmps24
      go_wp2_with fail
      refine (right_t _ H.out).mono ?_
      rintro e w' ⟨rfl, rfl⟩
      go_wp2_with fail
      refine ((HA _).out).mono ?_
      rintro e w' ⟨rfl, rfl⟩
      go_wp2_with fail
      exact bodyPost_ret (v := .tuple #[ent V r w, .int .i64 0]) (by simp [results, Try.results24, go_sem]) rfl ⟨rfl, [_, _, _], 0, rfl, rfl⟩
  · have e : mvV v f t = lessV t (f - v) := by unfold mvV; rw [if_neg hf]
    have hA := fun W => less_any t (f - v) W t0 t1 (by omega) (by omega)
    rw [← e] at hA
    have HA := fun W => Lib.hid (hA W)
    have hf' : v < f := by omega
    by_cases he : mvV v f t = 18446744073709551615
    · have eR : mvR v r f t = 0 := by unfold mvR; rw [if_pos he]
      rw [eR]
      clear eR e hA hf
      generalize mvV v f t = V at *
      have g : (V == 18446744073709551615) = true := beq_iff_eq.2 he
      clear he
      go_enter Try.func24, Try.ntmps24
      go_wp2_with fail
      refine (right_t _ H.out).mono ?_
      rintro e w' ⟨rfl, rfl⟩
      go_wp2_with fail
      refine ((HA _).out).mono ?_
      rintro e w' ⟨rfl, rfl⟩
      go_wp2_with fail
      exact bodyPost_ret (v := .tuple #[ent V 0 w, .int .i64 0]) (by simp [results, Try.results24, go_sem]) rfl ⟨rfl, [_, _, _], 0, rfl, rfl⟩
    · have eR : mvR v r f t = r := by unfold mvR; rw [if_neg he]
      rw [eR]
      clear eR e hA hf
      generalize mvV v f t = V at *
      have g : (V == 18446744073709551615) = false := beq_eq_false_iff_ne.2 he
      clear he
      go_enter Try.func24, Try.ntmps24
      go_wp2_with fail
      refine (right_t _ H.out).mono ?_
      rintro e w' ⟨rfl, rfl⟩
      go_wp2_with fail
      refine ((HA _).out).mono ?_
      rintro e w' ⟨rfl, rfl⟩
      go_wp2_with fail
      exact bodyPost_ret (v := .tuple #[ent V r w, .int .i64 0]) (by simp [results, Try.results24, go_sem]) rfl ⟨rfl, [_, _, _], 0, rfl, rfl⟩

set_option maxHeartbeats 400000 in
theorem moved_f {v r w f t : Int} (W : World) (b : EB v r w) (h : rightB v r w = false) :
    Calls Try.prog 24 #[ent v r w, .int .u64 f, .int .u64 t] W fun e w' => e = .returned (.tuple #[ent 0 0 0, .int .i64 2]) ∧ Grew 3 W w' := by
  have H := fun W => Lib.hid (right_f W b h)
  clear h b
  go_enter Try.func24, Try.ntmps24
  go_wp2_with fail
  refine ((H _).out).mono ?_
  rintro e w' ⟨rfl, rfl⟩
  go_wp2_with fail
  exact bodyPost_ret (v := .tuple #[ent 0 0 0, .int .i64 2]) (by simp [results, Try.results24, go_sem]) rfl ⟨rfl, [_, _, _], 0, rfl, rfl⟩

theorem moved_any {v r w f t : Int} (W : World) (b : EB v r w) (f0 : 0 ≤ f) (f1 : f ≤ 18446744073709551615) (t0 : 0 ≤ t) (t1 : t ≤ 18446744073709551615) :
    Calls Try.prog 24 #[ent v r w, .int .u64 f, .int .u64 t] W fun e w' => e = .returned (.tuple #[ent (iff (rightB v r w) (mvV v f t)) (iff (rightB v r w) (mvR v r f t)) (iff (rightB v r w) w), .int .i64 (xE v r w)]) ∧ Grew 3 W w' := by
  cases h : rightB v r w with
  | true => exact (moved_t W b f0 f1 t0 t1 h).mono fun e w' ⟨he, hw⟩ => ⟨he.trans (retE2 rfl rfl rfl (xE_t h).symm), hw⟩
  | false => exact (moved_f W b h).mono fun e w' ⟨he, hw⟩ => ⟨he.trans (retE2 rfl rfl rfl (xE_f h).symm), hw⟩

/-- V and R behind a waking. -/
def wkV (v f c : Int) : Int := if v < lessV f c then lessV f c else v
def wkR (v r f c : Int) : Int := if v < lessV f c then 0 else r

set_option maxHeartbeats 400000 in
theorem woken_t {v r w f c : Int} (W : World) (f0 : 0 ≤ f) (f1 : f ≤ 18446744073709551615) (c0 : 0 ≤ c) (c1 : c ≤ 18446744073709551615) (_ : EB v r w) (h : rightB v r w = true) :
    Calls Try.prog 28 #[ent v r w, .int .u64 f, .int .u64 c] W fun e w' => e = .returned (.tuple #[ent (wkV v f c) (wkR v r f c) w, .int .i64 0]) ∧ Grew 3 W w' := by
  have H := fun W => Lib.hid (right_t W h)
  have HA := fun W => Lib.hid (less_any f c W f0 f1 c0 c1)
  clear h
  by_cases hv : v < lessV f c
  · have e1 : wkV v f c = lessV f c := by unfold wkV; rw [if_pos hv]
    have e2 : wkR v r f c = 0 := by unfold wkR; rw [if_pos hv]
    rw [e1, e2]
    clear e1 e2
    generalize lessV f c = L at *
    go_enter Try.func28, Try.ntmps28
    go_wp2_with fail
    refine ((H _).out).mono ?_
    rintro e w' ⟨rfl, rfl⟩
    go_wp2_with fail
    refine ((HA _).out).mono ?_
    rintro e w' ⟨rfl, rfl⟩
    go_wp2_with fail
    exact bodyPost_ret (v := .tuple #[ent L 0 w, .int .i64 0]) (by simp [results, Try.results28, go_sem]) rfl ⟨rfl, [_, _, _], 0, rfl, rfl⟩
  · have e1 : wkV v f c = v := by unfold wkV; rw [if_neg hv]
    have e2 : wkR v r f c = r := by unfold wkR; rw [if_neg hv]
    rw [e1, e2]
    clear e1 e2
    generalize lessV f c = L at *
    go_enter Try.func28, Try.ntmps28
    go_wp2_with fail
    refine ((H _).out).mono ?_
    rintro e w' ⟨rfl, rfl⟩
    go_wp2_with fail
    refine ((HA _).out).mono ?_
    rintro e w' ⟨rfl, rfl⟩
    go_wp2_with fail
    exact bodyPost_ret (v := .tuple #[ent v r w, .int .i64 0]) (by simp [results, Try.results28, go_sem]) rfl ⟨rfl, [_, _, _], 0, rfl, rfl⟩

set_option maxHeartbeats 400000 in
theorem woken_f {v r w f c : Int} (W : World) (b : EB v r w) (h : rightB v r w = false) :
    Calls Try.prog 28 #[ent v r w, .int .u64 f, .int .u64 c] W fun e w' => e = .returned (.tuple #[ent 0 0 0, .int .i64 2]) ∧ Grew 3 W w' := by
  have H := fun W => Lib.hid (right_f W b h)
  clear h b
  go_enter Try.func28, Try.ntmps28
  go_wp2_with fail
  refine ((H _).out).mono ?_
  rintro e w' ⟨rfl, rfl⟩
  go_wp2_with fail
  exact bodyPost_ret (v := .tuple #[ent 0 0 0, .int .i64 2]) (by simp [results, Try.results28, go_sem]) rfl ⟨rfl, [_, _, _], 0, rfl, rfl⟩

theorem woken_any {v r w f c : Int} (W : World) (b : EB v r w) (f0 : 0 ≤ f) (f1 : f ≤ 18446744073709551615) (c0 : 0 ≤ c) (c1 : c ≤ 18446744073709551615) :
    Calls Try.prog 28 #[ent v r w, .int .u64 f, .int .u64 c] W fun e w' => e = .returned (.tuple #[ent (iff (rightB v r w) (wkV v f c)) (iff (rightB v r w) (wkR v r f c)) (iff (rightB v r w) w), .int .i64 (xE v r w)]) ∧ Grew 3 W w' := by
  cases h : rightB v r w with
  | true => exact (woken_t W f0 f1 c0 c1 b h).mono fun e w' ⟨he, hw⟩ => ⟨he.trans (retE2 rfl rfl rfl (xE_t h).symm), hw⟩
  | false => exact (woken_f W b h).mono fun e w' ⟨he, hw⟩ => ⟨he.trans (retE2 rfl rfl rfl (xE_f h).symm), hw⟩
set_option maxHeartbeats 400000 in
theorem refMoved_t {v r w f t : Int} (W : World) (b : EB v r w) (f0 : 0 ≤ f) (f1 : f ≤ 18446744073709551615) (t0 : 0 ≤ t) (t1 : t ≤ 18446744073709551615) (h : rightB v r w = true) :
    Calls Try.prog 48 #[ent v r w, .int .u64 f, .int .u64 t] W fun e w' => e = .returned (.tuple #[ent (mvV v f t) (mvR v r f t) w, .int .i64 0]) ∧ Grew 3 W w' := by
  have HR := fun W => Lib.hid (refRight_t W b h)
  have v0 := b.v0
  have v1 := b.v1
  clear h b
  by_cases hf : f ≤ v
  · have e : mvV v f t = andV t (v - f) := by unfold mvV; rw [if_pos hf]
    have hA := fun W => refAnd_any t (v - f) W t0 t1 (by omega) (by omega)
    rw [← e] at hA
    have HA := fun W => Lib.hid (hA W)
    by_cases he : mvV v f t = 18446744073709551615
    · have eR : mvR v r f t = 0 := by unfold mvR; rw [if_pos he]
      rw [eR]
      clear eR e hA
      generalize mvV v f t = V at *
      have g : (V == 18446744073709551615) = true := beq_iff_eq.2 he
      clear he
      go_enter Try.func48, Try.ntmps48
      go_wp2_with fail
      refine ((HR _).out).mono ?_
      rintro e w' ⟨rfl, rfl⟩
      go_wp2_with fail
      refine ((HA _).out).mono ?_
      rintro e w' ⟨rfl, rfl⟩
      go_wp2_with fail
      exact bodyPost_ret (v := .tuple #[ent V 0 w, .int .i64 0]) (by simp [results, Try.results48, go_sem]) rfl ⟨rfl, [_, _, _], 0, rfl, rfl⟩
    · have eR : mvR v r f t = r := by unfold mvR; rw [if_neg he]
      rw [eR]
      clear eR e hA
      generalize mvV v f t = V at *
      have g : (V == 18446744073709551615) = false := beq_eq_false_iff_ne.2 he
      clear he
      go_enter Try.func48, Try.ntmps48
      go_wp2_with fail
      refine ((HR _).out).mono ?_
      rintro e w' ⟨rfl, rfl⟩
      go_wp2_with fail
      refine ((HA _).out).mono ?_
      rintro e w' ⟨rfl, rfl⟩
      go_wp2_with fail
      exact bodyPost_ret (v := .tuple #[ent V r w, .int .i64 0]) (by simp [results, Try.results48, go_sem]) rfl ⟨rfl, [_, _, _], 0, rfl, rfl⟩
  · have e : mvV v f t = lessV t (f - v) := by unfold mvV; rw [if_neg hf]
    have hA := fun W => refLess_any t (f - v) W t0 t1 (by omega) (by omega)
    rw [← e] at hA
    have HA := fun W => Lib.hid (hA W)
    have hf' : v < f := by omega
    by_cases he : mvV v f t = 18446744073709551615
    · have eR : mvR v r f t = 0 := by unfold mvR; rw [if_pos he]
      rw [eR]
      clear eR e hA hf
      generalize mvV v f t = V at *
      have g : (V == 18446744073709551615) = true := beq_iff_eq.2 he
      clear he
      go_enter Try.func48, Try.ntmps48
      go_wp2_with fail
      refine ((HR _).out).mono ?_
      rintro e w' ⟨rfl, rfl⟩
      go_wp2_with fail
      refine ((HA _).out).mono ?_
      rintro e w' ⟨rfl, rfl⟩
      go_wp2_with fail
      exact bodyPost_ret (v := .tuple #[ent V 0 w, .int .i64 0]) (by simp [results, Try.results48, go_sem]) rfl ⟨rfl, [_, _, _], 0, rfl, rfl⟩
    · have eR : mvR v r f t = r := by unfold mvR; rw [if_neg he]
      rw [eR]
      clear eR e hA hf
      generalize mvV v f t = V at *
      have g : (V == 18446744073709551615) = false := beq_eq_false_iff_ne.2 he
      clear he
      go_enter Try.func48, Try.ntmps48
      go_wp2_with fail
      refine ((HR _).out).mono ?_
      rintro e w' ⟨rfl, rfl⟩
      go_wp2_with fail
      refine ((HA _).out).mono ?_
      rintro e w' ⟨rfl, rfl⟩
      go_wp2_with fail
      exact bodyPost_ret (v := .tuple #[ent V r w, .int .i64 0]) (by simp [results, Try.results48, go_sem]) rfl ⟨rfl, [_, _, _], 0, rfl, rfl⟩

set_option maxHeartbeats 400000 in
theorem refMoved_f {v r w f t : Int} (W : World) (b : EB v r w) (h : rightB v r w = false) :
    Calls Try.prog 48 #[ent v r w, .int .u64 f, .int .u64 t] W fun e w' => e = .returned (.tuple #[ent 0 0 0, .int .i64 2]) ∧ Grew 3 W w' := by
  have H := fun W => Lib.hid (refRight_f W b h)
  clear h b
  go_enter Try.func48, Try.ntmps48
  go_wp2_with fail
  refine ((H _).out).mono ?_
  rintro e w' ⟨rfl, rfl⟩
  go_wp2_with fail
  exact bodyPost_ret (v := .tuple #[ent 0 0 0, .int .i64 2]) (by simp [results, Try.results48, go_sem]) rfl ⟨rfl, [_, _, _], 0, rfl, rfl⟩

theorem refMoved_any {v r w f t : Int} (W : World) (b : EB v r w) (f0 : 0 ≤ f) (f1 : f ≤ 18446744073709551615) (t0 : 0 ≤ t) (t1 : t ≤ 18446744073709551615) :
    Calls Try.prog 48 #[ent v r w, .int .u64 f, .int .u64 t] W fun e w' => e = .returned (.tuple #[ent (iff (rightB v r w) (mvV v f t)) (iff (rightB v r w) (mvR v r f t)) (iff (rightB v r w) w), .int .i64 (xE v r w)]) ∧ Grew 3 W w' := by
  cases h : rightB v r w with
  | true => exact (refMoved_t W b f0 f1 t0 t1 h).mono fun e w' ⟨he, hw⟩ => ⟨he.trans (retE2 rfl rfl rfl (xE_t h).symm), hw⟩
  | false => exact (refMoved_f W b h).mono fun e w' ⟨he, hw⟩ => ⟨he.trans (retE2 rfl rfl rfl (xE_f h).symm), hw⟩


set_option maxHeartbeats 400000 in
theorem refWoken_t {v r w f c : Int} (W : World) (f0 : 0 ≤ f) (f1 : f ≤ 18446744073709551615) (c0 : 0 ≤ c) (c1 : c ≤ 18446744073709551615) (b : EB v r w) (h : rightB v r w = true) :
    Calls Try.prog 47 #[ent v r w, .int .u64 f, .int .u64 c] W fun e w' => e = .returned (.tuple #[ent (wkV v f c) (wkR v r f c) w, .int .i64 0]) ∧ Grew 3 W w' := by
  have H := fun W => Lib.hid (refRight_t W b h)
  have HA := fun W => Lib.hid (refLess_any f c W f0 f1 c0 c1)
  clear h b
  by_cases hv : v < lessV f c
  · have e1 : wkV v f c = lessV f c := by unfold wkV; rw [if_pos hv]
    have e2 : wkR v r f c = 0 := by unfold wkR; rw [if_pos hv]
    rw [e1, e2]
    clear e1 e2
    generalize lessV f c = L at *
    go_enter Try.func47, Try.ntmps47
    go_wp2_with fail
    refine ((H _).out).mono ?_
    rintro e w' ⟨rfl, rfl⟩
    go_wp2_with fail
    refine ((HA _).out).mono ?_
    rintro e w' ⟨rfl, rfl⟩
    go_wp2_with fail
    exact bodyPost_ret (v := .tuple #[ent L 0 w, .int .i64 0]) (by simp [results, Try.results47, go_sem]) rfl ⟨rfl, [_, _, _], 0, rfl, rfl⟩
  · have e1 : wkV v f c = v := by unfold wkV; rw [if_neg hv]
    have e2 : wkR v r f c = r := by unfold wkR; rw [if_neg hv]
    rw [e1, e2]
    clear e1 e2
    generalize lessV f c = L at *
    go_enter Try.func47, Try.ntmps47
    go_wp2_with fail
    refine ((H _).out).mono ?_
    rintro e w' ⟨rfl, rfl⟩
    go_wp2_with fail
    refine ((HA _).out).mono ?_
    rintro e w' ⟨rfl, rfl⟩
    go_wp2_with fail
    exact bodyPost_ret (v := .tuple #[ent v r w, .int .i64 0]) (by simp [results, Try.results47, go_sem]) rfl ⟨rfl, [_, _, _], 0, rfl, rfl⟩

set_option maxHeartbeats 400000 in
theorem refWoken_f {v r w f c : Int} (W : World) (b : EB v r w) (h : rightB v r w = false) :
    Calls Try.prog 47 #[ent v r w, .int .u64 f, .int .u64 c] W fun e w' => e = .returned (.tuple #[ent 0 0 0, .int .i64 2]) ∧ Grew 3 W w' := by
  have H := fun W => Lib.hid (refRight_f W b h)
  clear h b
  go_enter Try.func47, Try.ntmps47
  go_wp2_with fail
  refine ((H _).out).mono ?_
  rintro e w' ⟨rfl, rfl⟩
  go_wp2_with fail
  exact bodyPost_ret (v := .tuple #[ent 0 0 0, .int .i64 2]) (by simp [results, Try.results47, go_sem]) rfl ⟨rfl, [_, _, _], 0, rfl, rfl⟩

theorem refWoken_any {v r w f c : Int} (W : World) (b : EB v r w) (f0 : 0 ≤ f) (f1 : f ≤ 18446744073709551615) (c0 : 0 ≤ c) (c1 : c ≤ 18446744073709551615) :
    Calls Try.prog 47 #[ent v r w, .int .u64 f, .int .u64 c] W fun e w' => e = .returned (.tuple #[ent (iff (rightB v r w) (wkV v f c)) (iff (rightB v r w) (wkR v r f c)) (iff (rightB v r w) w), .int .i64 (xE v r w)]) ∧ Grew 3 W w' := by
  cases h : rightB v r w with
  | true => exact (refWoken_t W f0 f1 c0 c1 b h).mono fun e w' ⟨he, hw⟩ => ⟨he.trans (retE2 rfl rfl rfl (xE_t h).symm), hw⟩
  | false => exact (refWoken_f W b h).mono fun e w' ⟨he, hw⟩ => ⟨he.trans (retE2 rfl rfl rfl (xE_f h).symm), hw⟩
end Go.Proofs.Ytmlapjaccmoleaa
