/-
  The plain laws of waking and moving (layers 23 and 26): no program in sight.
-/
import Derived.Test.YtmlapjaccmoleaaDist
import Derived.Test.YtmlapjaccmoleaaFloor
namespace Go.Proofs.Ytmlapjaccmoleaa
open Go.RowKit

theorem wk_eb {v r w f c : Int} (b : EB v r w) (f1 : f ≤ 18446744073709551615) (c0 : 0 ≤ c) : EB (wkV v f c) (wkR v r f c) w := by
  obtain ⟨v0, v1, r0, r1, w0, w1⟩ := b
  refine ⟨?_, ?_, ?_, ?_, w0, w1⟩ <;> simp only [wkV, wkR, lessV] <;> repeat' split
  all_goals omega
theorem wk_right {v r w f c : Int} (b : EB v r w) (h : rightB v r w = true) : rightB (wkV v f c) (wkR v r f c) w = true := by
  obtain ⟨v0, v1, r0, r1, w0, w1⟩ := b
  obtain ⟨h1, h2, h3, h4⟩ := rightB_of h
  simp only [wkV, wkR]
  split
  · exact rightB_mk h1 h2 (by omega) (Or.inr rfl)
  · exact rightB_mk h1 h2 h3 h4
theorem wk_again {v r f c : Int} : wkV (wkV v f c) f c = wkV v f c ∧ wkR (wkV v f c) (wkR v r f c) f c = wkR v r f c := by
  simp only [wkV, wkR]
  constructor <;> (repeat' split) <;> first | rfl | omega
theorem wk_ge (v f c : Int) : v ≤ wkV v f c ∧ lessV f c ≤ wkV v f c := by
  simp only [wkV]
  constructor <;> split <;> omega
theorem wk_more (v f : Int) {c m : Int} (h : c ≤ m) : wkV v f m ≤ wkV v f c := by
  simp only [wkV, lessV]
  repeat' split
  all_goals omega
theorem wk_mono (v u f c : Int) : (u < v ∨ wkV v f c ≤ wkV u f c) ∧ (v < u ∨ wkV u f c ≤ wkV v f c) := by
  simp only [wkV]
  constructor <;> (repeat' split) <;> omega
theorem wk_at (v r f c : Int) : (lessV f c ≤ v ∧ wkV v f c = v ∧ wkR v r f c = r) ∨ (v < lessV f c ∧ wkV v f c = lessV f c ∧ wkR v r f c = 0) := by
  simp only [wkV, wkR]
  split
  · exact Or.inr ⟨by omega, rfl, rfl⟩
  · exact Or.inl ⟨by omega, rfl, rfl⟩

/-- Meets an entity an end? -/
def endB (v f t : Int) : Bool := if f ≤ v then decide (18446744073709551615 - t ≤ v - f) else decide (t < f - v)
theorem mv_own {v r w f : Int} (b : EB v r w) (h : rightB v r w = true) : mvV v f f = v ∧ mvR v r f f = r := by
  obtain ⟨v0, v1, r0, r1, w0, w1⟩ := b
  obtain ⟨h1, h2, h3, h4⟩ := rightB_of h
  have e : mvV v f f = v := by
    simp only [mvV, andV, lessV]
    repeat' split
    all_goals omega
  refine ⟨e, ?_⟩
  unfold mvR
  rw [e]
  split <;> omega
theorem mv_mono {v u f t : Int} (h : v ≤ u) (t0 : 0 ≤ t) (t1 : t ≤ 18446744073709551615) : mvV v f t ≤ mvV u f t := by
  simp only [mvV, andV, lessV]
  repeat' split
  all_goals omega
theorem mv_end {v f t : Int} (h : endB v f t = true) : mvV v f t = 0 ∨ mvV v f t = 18446744073709551615 := by
  simp only [mvV, andV, lessV, endB] at *
  repeat' split
  all_goals (try simp [*] at h)
  all_goals omega
theorem mv_in {v f t : Int} (t0 : 0 ≤ t) (t1 : t ≤ 18446744073709551615) (h : endB v f t = false) : mvV v f t = v - f + t ∧ 0 ≤ v - f + t ∧ v - f + t < 18446744073709551615 := by
  simp only [mvV, andV, lessV, endB] at *
  repeat' split
  all_goals (try simp [*] at h)
  all_goals omega
theorem mv_back {v r w f t : Int} (b : EB v r w) (t0 : 0 ≤ t) (t1 : t ≤ 18446744073709551615) (h : endB v f t = false) (hr : rightB v r w = true) : mvR v r f t = r ∧ mvV (mvV v f t) t f = v ∧ mvR (mvV v f t) (mvR v r f t) t f = r := by
  obtain ⟨v0, v1, r0, r1, w0, w1⟩ := b
  obtain ⟨h1, h2, h3, h4⟩ := rightB_of hr
  obtain ⟨e, e1, e2⟩ := mv_in t0 t1 h
  have e3 : mvR v r f t = r := by
    unfold mvR
    rw [e]
    split <;> omega
  have e4 : mvV (mvV v f t) t f = v := by
    rw [e]
    simp only [mvV, andV, lessV]
    repeat' split
    all_goals omega
  refine ⟨e3, e4, ?_⟩
  rw [e3]
  unfold mvR
  rw [e4]
  split <;> omega
theorem mv_farB {v u f t : Int} (t0 : 0 ≤ t) (t1 : t ≤ 18446744073709551615) (h : endB v f t = false) (h2 : endB u f t = false) : ahV (mvV v f t) (mvV u f t) = ahV v u := by
  rw [(mv_in t0 t1 h).1, (mv_in t0 t1 h2).1]
  simp only [ahV, lessV]
  repeat' split
  all_goals omega
/-- Is a relative entity right? -/
def relB (b : Bool) (y r w : Int) : Bool := if b then (if 0 < y then rightB 0 r w else false) else rightB 0 r w
def onV (b : Bool) (y f : Int) : Int := if b then lessV f y else andV f y
def onR (b : Bool) (y r f : Int) : Int := if onV b y f = 18446744073709551615 then 0 else r
def offB (v f : Int) : Bool := decide (v < f)
/-- Is a floor within reach? -/
def inB (b : Bool) (y f : Int) : Bool := if b then decide (y ≤ f) else decide (f ≤ 18446744073709551615 - y - 1)
theorem right0 {r w : Int} (h : rightB 0 r w = true) : 1 ≤ w ∧ w ≤ 65536 ∧ r < w := by
  obtain ⟨h1, h2, h3, _⟩ := rightB_of h
  exact ⟨h1, h2, h3⟩
theorem right0_mk {r w : Int} (h1 : 1 ≤ w) (h2 : w ≤ 65536) (h3 : r < w) : rightB 0 r w = true := rightB_mk h1 h2 h3 (Or.inl (by omega))
theorem relB_of {b : Bool} {y r w : Int} (h : relB b y r w = true) : rightB 0 r w = true ∧ (b = true → 0 < y) := by
  unfold relB at h
  cases b
  · exact ⟨by simpa using h, fun h => by cases h⟩
  · by_cases hy : 0 < y
    · rw [if_pos rfl, if_pos hy] at h
      exact ⟨h, fun _ => hy⟩
    · rw [if_pos rfl, if_neg hy] at h
      cases h
theorem relB_mk {b : Bool} {y r w : Int} (h : rightB 0 r w = true) (h2 : b = true → 0 < y) : relB b y r w = true := by
  unfold relB
  cases b
  · simpa using h
  · rw [if_pos rfl, if_pos (h2 rfl)]; exact h
theorem on_off (v f t : Int) : onV (offB v f) (ahV v f) t = mvV v f t := by
  unfold onV offB mvV
  by_cases h : f ≤ v
  · have h' : ¬ v < f := by omega
    simp only [h, h', decide_false, if_true]
    have : ahV v f = v - f := by unfold ahV lessV; (repeat' split) <;> omega
    rw [this]; rfl
  · have h' : v < f := by omega
    simp only [h, h', decide_true, if_true, if_false]
    have : ahV v f = f - v := by unfold ahV lessV; (repeat' split) <;> omega
    rw [this]
theorem onR_off (v r f t : Int) : onR (offB v f) (ahV v f) r t = mvR v r f t := by
  unfold onR mvR
  rw [on_off]
theorem off_pos {v f : Int} (h : offB v f = true) : 0 < ahV v f := by
  have h := of_decide_eq_true h
  unfold ahV lessV
  (repeat' split) <;> omega
theorem off_right {v r w f : Int} (h : rightB v r w = true) : relB (offB v f) (ahV v f) r w = true := by
  obtain ⟨h1, h2, h3, h4⟩ := rightB_of h
  exact relB_mk (right0_mk h1 h2 h3) off_pos
theorem ah_bd {v f : Int} (v0 : 0 ≤ v) (v1 : v ≤ 18446744073709551615) (f0 : 0 ≤ f) (f1 : f ≤ 18446744073709551615) : 0 ≤ ahV v f ∧ ahV v f ≤ 18446744073709551615 := by
  unfold ahV lessV
  (repeat' split) <;> omega
theorem off_eb {v r w f : Int} (b : EB v r w) (f0 : 0 ≤ f) (f1 : f ≤ 18446744073709551615) : EB (ahV v f) r w := by
  have := ah_bd b.v0 b.v1 f0 f1
  exact ⟨this.1, this.2, b.r0, b.r1, b.w0, b.w1⟩
theorem onV_bd {b : Bool} {y f : Int} (y0 : 0 ≤ y) (f0 : 0 ≤ f) (f1 : f ≤ 18446744073709551615) : 0 ≤ onV b y f ∧ onV b y f ≤ 18446744073709551615 := by
  unfold onV
  split
  · exact lessV_bd f1 y0
  · exact andV_bd f0 y0
theorem on_eb {b : Bool} {y r w f : Int} (h : EB y r w) (f0 : 0 ≤ f) (f1 : f ≤ 18446744073709551615) : EB (onV b y f) (onR b y r f) w := by
  have := onV_bd (b := b) h.v0 f0 f1
  have h1 := h.r0
  have h2 := h.r1
  refine ⟨this.1, this.2, ?_, ?_, h.w0, h.w1⟩ <;> unfold onR <;> split <;> omega
theorem on_right {b : Bool} {y r w f : Int} (hb : EB y r w) (f0 : 0 ≤ f) (f1 : f ≤ 18446744073709551615) (h : relB b y r w = true) : rightB (onV b y f) (onR b y r f) w = true := by
  obtain ⟨h1, h2, h3⟩ := right0 (relB_of h).1
  have := onV_bd (b := b) hb.v0 f0 f1
  have := hb.r0
  unfold onR
  split
  · exact rightB_mk h1 h2 (by omega) (Or.inr rfl)
  · exact rightB_mk h1 h2 h3 (Or.inl (by omega))
theorem on_in {b : Bool} {y r f : Int} (y0 : 0 ≤ y) (f0 : 0 ≤ f) (f1 : f ≤ 18446744073709551615) (hb : b = true → 0 < y) (h : inB b y f = true) :
    onV b y f = (if b then f - y else f + y) ∧ offB (onV b y f) f = b ∧ ahV (onV b y f) f = y ∧ onR b y r f = r := by
  have e : onV b y f = (if b then f - y else f + y) := by
    unfold onV lessV andV inB at *
    cases b <;> simp only [Bool.false_eq_true, if_false, if_true, decide_eq_true_eq] at * <;> split <;> omega
  refine ⟨e, ?_, ?_, ?_⟩
  · rw [e]; unfold offB
    cases b
    · exact decide_eq_false (by simp; omega)
    · exact decide_eq_true (by have := hb rfl; simp; omega)
  · rw [e]; unfold ahV lessV
    cases b <;> simp only [Bool.false_eq_true, if_false, if_true] <;> split <;> split <;> omega
  · unfold onR
    rw [e]
    unfold inB at h
    cases b
    · have h := of_decide_eq_true h
      simp only [Bool.false_eq_true, if_false]
      split <;> omega
    · have h := of_decide_eq_true h
      have := hb rfl
      simp only [if_true]
      split <;> omega
theorem on_out {b : Bool} {y f : Int} (h : inB b y f = false) : onV b y f = 0 ∨ onV b y f = 18446744073709551615 := by
  unfold onV lessV andV inB at *
  cases b
  · have h := of_decide_eq_false h
    simp only [Bool.false_eq_true, if_false]
    split <;> omega
  · have h := of_decide_eq_false h
    simp only [if_true]
    split <;> omega
theorem on_back {v r w f : Int} (b : EB v r w) (h : rightB v r w = true) : onV (offB v f) (ahV v f) f = v ∧ onR (offB v f) (ahV v f) r f = r := by
  rw [on_off, onR_off]
  exact mv_own b h
/-- How relative entities compare. -/
def cmV (b : Bool) (y : Int) (b' : Bool) (y' : Int) : Int := if b then (if b' then cmpI y' y else -1) else (if b' then 1 else cmpI y y')
theorem cm_bd (b : Bool) (y : Int) (b' : Bool) (y' : Int) : -1 ≤ cmV b y b' y' ∧ cmV b y b' y' ≤ 1 := by
  cases b <;> cases b' <;> simp only [cmV, cmpI, Bool.false_eq_true, if_false, if_true] <;> (repeat' split) <;> omega
theorem cm_turn (b : Bool) (y : Int) (b' : Bool) (y' : Int) : cmV b y b' y' = - cmV b' y' b y := by
  cases b <;> cases b' <;> simp only [cmV, cmpI, Bool.false_eq_true, if_false, if_true] <;> (repeat' split) <;> omega
theorem cm_off (v u f : Int) : cmV (offB v f) (ahV v f) (offB u f) (ahV u f) = cmpI v u := by
  unfold offB
  by_cases h1 : v < f <;> by_cases h2 : u < f <;> simp only [cmV, cmpI, ahV, lessV, h1, h2, decide_true, decide_false, Bool.false_eq_true, if_false, if_true] <;> (repeat' split) <;> omega
/-- The virtual runtime and the rest behind i steps through floors. -/
def thAt (v r : Int) (fs : List Int) : Nat → Int × Int
  | 0 => (v, r)
  | i + 1 => (mvV (thAt v r fs i).1 (fs.getD i 0) (fs.getD (i + 1) 0), mvR (thAt v r fs i).1 (thAt v r fs i).2 (fs.getD i 0) (fs.getD (i + 1) 0))
theorem thAt_cut {v r : Int} {fs gs : List Int} {k : Nat} (h : ∀ j, j ≤ k → fs.getD j 0 = gs.getD j 0) : ∀ i, i ≤ k → thAt v r fs i = thAt v r gs i
  | 0, _ => rfl
  | i + 1, hi => by
    have ih := thAt_cut (v := v) (r := r) h i (by omega)
    simp only [thAt, ih, h i (by omega), h (i + 1) hi]
theorem thAt_add {v r : Int} {fs gs : List Int} {k : Nat} (h : ∀ j, gs.getD j 0 = fs.getD (k + j) 0) : ∀ i, thAt (thAt v r fs k).1 (thAt v r fs k).2 gs i = thAt v r fs (k + i)
  | 0 => rfl
  | i + 1 => by
    have ih := thAt_add (v := v) (r := r) h i
    simp only [thAt, ih, h i, h (i + 1)]
    rfl
theorem thAt_in {v r w : Int} {fs : List Int} (hb : EB v r w) (hr : rightB v r w = true) (hf : ∀ j, 0 ≤ fs.getD j 0 ∧ fs.getD j 0 ≤ 18446744073709551615) {n : Nat}
    (hin : ∀ j, 1 ≤ j → j < n → inB (offB v (fs.getD 0 0)) (ahV v (fs.getD 0 0)) (fs.getD j 0) = true) :
    ∀ i, i < n → thAt v r fs (i + 1) = (onV (offB v (fs.getD 0 0)) (ahV v (fs.getD 0 0)) (fs.getD (i + 1) 0), onR (offB v (fs.getD 0 0)) (ahV v (fs.getD 0 0)) r (fs.getD (i + 1) 0))
  | 0, _ => by simp only [thAt, on_off, onR_off]
  | i + 1, hi => by
    have ih := thAt_in hb hr hf hin i (by omega)
    have y0 := (ah_bd hb.v0 hb.v1 (hf 0).1 (hf 0).2).1
    have h := on_in (r := r) y0 (hf (i + 1)).1 (hf (i + 1)).2 (fun h => off_pos h) (hin (i + 1) (by omega) hi)
    rw [thAt, ih]
    dsimp only
    rw [← on_off (onV _ _ _), ← onR_off (onV _ _ _), h.2.1, h.2.2.1, h.2.2.2]
theorem thAt_ok {v r w : Int} {fs : List Int} (hb : EB v r w) (hr : rightB v r w = true) (hf : ∀ j, 0 ≤ fs.getD j 0 ∧ fs.getD j 0 ≤ 18446744073709551615) :
    ∀ i, EB (thAt v r fs i).1 (thAt v r fs i).2 w ∧ rightB (thAt v r fs i).1 (thAt v r fs i).2 w = true
  | 0 => ⟨hb, hr⟩
  | i + 1 => by
    have ih := thAt_ok hb hr hf i
    exact ⟨mv_eb ih.1 (hf (i + 1)).1 (hf (i + 1)).2, mv_right ih.1 (hf (i + 1)).1 (hf (i + 1)).2 ih.2⟩
end Go.Proofs.Ytmlapjaccmoleaa
