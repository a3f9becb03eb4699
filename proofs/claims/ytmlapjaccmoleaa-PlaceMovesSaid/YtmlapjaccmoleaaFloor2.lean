/-
  The contract of place's Floor, and of the reference's, by the same values.
-/
import Derived.Test.YtmlapjaccmoleaaFloor
namespace Go.Proofs.Ytmlapjaccmoleaa
open Go.RowKit

def flV (f : Int) (es : List E3) : Int := if es.length = 0 then f else if f < minV es (es.length - 1) then minV es (es.length - 1) else f
def flE (es : List E3) : Int := if es.all rightE then 0 else 2

theorem minV_bd {es : List E3} (hE : EBs es) : ∀ k, k < es.length → 0 ≤ minV es k ∧ minV es k ≤ 18446744073709551615
  | 0, h => ⟨(hE.at h).v0, (hE.at h).v1⟩
  | k + 1, h => by
    have ih := minV_bd hE k (by omega)
    have h1 := hE.at h
    unfold minV
    split
    · exact ⟨h1.v0, h1.v1⟩
    · exact ih

theorem good_or_bad (es : List E3) : ((∀ i, i < es.length → rightE (es.getD i e0) = true) ∧ es.all rightE = true) ∨ (es.all rightE = false ∧ ∃ m, m < es.length ∧ rightE (es.getD m e0) = false ∧ ∀ j, j < m → rightE (es.getD j e0) = true) := by
  induction es with
  | nil => exact Or.inl ⟨fun i hi => by simp at hi, rfl⟩
  | cons z zs ih =>
    cases hz : rightE z with
    | false => exact Or.inr ⟨by simp [hz], 0, by simp, by simpa using hz, fun j hj => by omega⟩
    | true =>
      rcases ih with ⟨h1, h2⟩ | ⟨h1, m, h2, h3, h4⟩
      · refine Or.inl ⟨fun i hi => ?_, by simp [hz] at h2 ⊢; exact h2⟩
        cases i with
        | zero => simpa using hz
        | succ i => simpa using h1 i (by simpa using hi)
      · refine Or.inr ⟨by simp only [List.all_cons, hz, Bool.true_and]; exact h1, m + 1, by simpa using h2, by simpa using h3, fun j hj => ?_⟩
        cases j with
        | zero => simpa using hz
        | succ j => simpa using h4 j (by omega)

set_option maxHeartbeats 400000 in
theorem floor_bad {f : Int} (W : World) (A : Option Addr) (cap : Nat) (es : List E3) (hmax : (es.length : Int) ≤ 3000000000000000000) (hc : IsEnts W A es.length es) (hE : EBs es)
    (m : Nat) (hm : m < es.length) (hb : rightE (es.getD m e0) = false) :
    Calls Try.prog 32 #[.int .u64 f, .slice A es.length cap] W fun e w' => e = .returned (.tuple #[.int .u64 0, .int .i64 2]) ∧ GrewS W w' := by
  have H := Lib.hid (contains_bad W A es.length cap es hmax hc (fun i hi => hE.at hi) m hm hb)
  clear hc hb hm hE
  go_enter Try.func32, Try.ntmps32
  go_wp2_with fail
  refine (H.out).mono ?_
  rintro e w1 ⟨rfl, hg⟩
  go_wp2_with fail
  go_ret2
  exact ⟨rfl, hg⟩

set_option maxHeartbeats 400000 in
theorem floor_nil {f : Int} (W : World) (A : Option Addr) (cap : Nat) :
    Calls Try.prog 32 #[.int .u64 f, .slice A 0 cap] W fun e w' => e = .returned (.tuple #[.int .u64 f, .int .i64 0]) ∧ GrewS W w' := by
  have H := Lib.hid (contains_good W A 0 cap [] (by omega) (fun i hi => by omega) (fun i hi => by omega))
  go_enter Try.func32, Try.ntmps32
  go_wp2_with fail
  refine (H.out).mono ?_
  rintro e w1 ⟨rfl, hg⟩
  go_wp2_with fail
  go_ret2
  exact ⟨rfl, hg⟩

set_option maxHeartbeats 400000 in
theorem floor_good {f : Int} (W : World) (A : Option Addr) (cap : Nat) (es : List E3) (hpos : 0 < es.length) (hmax : (es.length : Int) ≤ 3000000000000000000) (hc : IsEnts W A es.length es)
    (hg : ∀ i, i < es.length → rightE (es.getD i e0) = true) :
    Calls Try.prog 32 #[.int .u64 f, .slice A es.length cap] W fun e w' => e = .returned (.tuple #[.int .u64 (if f < minV es (es.length - 1) then minV es (es.length - 1) else f), .int .i64 0]) ∧ GrewS W w' := by
  have H := Lib.hid (contains_good W A es.length cap es hmax hc hg)
  have HC := Lib.hid hc
  clear hc hg
  have HM := fun W => Lib.hid (fun hc => minFunc_any W A es.length cap es (by omega) hmax hc)
  generalize minV es (es.length - 1) = m at *
  have hp : ((es.length : Int) == 0) = false := beq_eq_false_iff_ne.2 (by omega)
  by_cases hlt : f < m
  · rw [if_pos hlt]
    go_enter Try.func32, Try.ntmps32
    go_wp2_with fail
    refine (H.out).mono ?_
    rintro e w1 ⟨rfl, hg⟩
    have hc1 := Lib.hid (HC.out.kp hg.kp)
    have HG := Lib.hid hg
    clear hg
    go_wp2_with fail
    refine ((HM _).out hc1.out).mono ?_
    rintro e w2 ⟨r, w, rfl, hg2⟩
    have HG2 := Lib.hid hg2
    clear hg2
    go_wp2_with fail
    go_ret2
    exact ⟨rfl, (HG.out.trans HG2.out).alloc _⟩
  · rw [if_neg hlt]
    have hle : m ≤ f := by omega
    clear hlt
    go_enter Try.func32, Try.ntmps32
    go_wp2_with fail
    refine (H.out).mono ?_
    rintro e w1 ⟨rfl, hg⟩
    have hc1 := Lib.hid (HC.out.kp hg.kp)
    have HG := Lib.hid hg
    clear hg
    go_wp2_with fail
    refine ((HM _).out hc1.out).mono ?_
    rintro e w2 ⟨r, w, rfl, hg2⟩
    have HG2 := Lib.hid hg2
    clear hg2
    by_cases he : m = f
    · subst he
      go_wp2_with fail
      all_goals go_ret2
      all_goals exact ⟨rfl, (HG.out.trans HG2.out).alloc _⟩
    · have hle2 : m < f := by omega
      clear he
      go_wp2_with fail
      all_goals go_ret2
      all_goals exact ⟨rfl, (HG.out.trans HG2.out).alloc _⟩

theorem floor_any {f : Int} (W : World) (A : Option Addr) (cap : Nat) (es : List E3) (hmax : (es.length : Int) ≤ 3000000000000000000) (hc : IsEnts W A es.length es) (hE : EBs es) :
    Calls Try.prog 32 #[.int .u64 f, .slice A es.length cap] W fun e w' => e = .returned (.tuple #[.int .u64 (iff (es.all rightE) (flV f es)), .int .i64 (flE es)]) ∧ GrewS W w' := by
  rcases good_or_bad es with ⟨h1, h2⟩ | ⟨h1, m, h2, h3, _⟩
  · rcases Nat.eq_zero_or_pos es.length with h0 | h0
    · have e : es = [] := List.eq_nil_of_length_eq_zero h0
      subst e
      exact floor_nil W A cap
    · refine (floor_good W A cap es h0 hmax hc h1).mono fun e w' ⟨he, hw⟩ => ⟨he.trans (retUI ?_ ?_), hw⟩
      · rw [h2, iff_t, flV, if_neg (show ¬ es.length = 0 by omega)]
      · rw [flE, h2]; rfl
  · refine (floor_bad W A cap es hmax hc hE m h2 h3).mono fun e w' ⟨he, hw⟩ => ⟨he.trans (retUI ?_ ?_), hw⟩
    · rw [h1]; rfl
    · rw [flE, h1]; rfl

/-- The least V of the first k entities, or the end. -/
def refMin (es : List E3) : Nat → Int
  | 0 => 18446744073709551615
  | k + 1 => if (es.getD k e0).1 < refMin es k then (es.getD k e0).1 else refMin es k
theorem refMin_eq {es : List E3} (hE : EBs es) : ∀ k, k < es.length → refMin es (k + 1) = minV es k
  | 0, h => by
    have := (hE.at h).v1
    show (if (es.getD 0 e0).1 < 18446744073709551615 then (es.getD 0 e0).1 else 18446744073709551615) = (es.getD 0 e0).1
    by_cases h : (es.getD 0 e0).1 < 18446744073709551615
    · rw [if_pos h]
    · rw [if_neg h]; omega
  | k + 1, h => by
    have ih := refMin_eq hE k (by omega)
    unfold minV
    rw [← ih]
    rfl

set_option maxRecDepth 100000 in
set_option maxHeartbeats 1000000 in
theorem refFloor_good {f : Int} (W : World) (A : Option Addr) (cap : Nat) (es : List E3) (hmax : (es.length : Int) ≤ 3000000000000000000) (hc : IsEnts W A es.length es) (hE : EBs es)
    (hg : ∀ i, i < es.length → rightE (es.getD i e0) = true) :
    Calls Try.prog 60 #[.int .u64 f, .slice A es.length cap] W fun e w' => e = .returned (.tuple #[.int .u64 (flV f es), .int .i64 0]) ∧ GrewS W w' := by
  have HC := Lib.hid hc
  have HE := Lib.hid hE
  have HG := Lib.hid hg
  have HF : Hid (flV f es = if es.length = 0 then f else if f < refMin es es.length then refMin es es.length else f) := by
    show flV f es = _
    unfold flV
    by_cases h0 : es.length = 0
    · rw [if_pos h0, if_pos h0]
    · have h1 := refMin_eq hE (es.length - 1) (by omega)
      rw [show es.length - 1 + 1 = es.length from by omega] at h1
      rw [h1]
  clear hc hE hg
  generalize hlen : es.length = len at *
  have HL := Lib.hid hlen
  clear hlen
  go_enter Try.func60, Try.ntmps60
  go_wp2
  go_loopw [6, 7] (fun s i wr => ∃ k : Nat, k ≤ len ∧ i = .int .i64 k ∧ s = .int .u64 (refMin es k) ∧ GrewS W wr) (fun _ i _ => len - (intOf i).toNat)
  case atStart => exact ⟨0, Nat.zero_le _, rfl, rfl, GrewS.refl _⟩
  case round =>
    obtain ⟨k, hk, rfl, rfl, hgr⟩ := hrel
    by_cases hlt : (k : Int) < len
    · obtain ⟨b, off, rfl, hb, c0, c1, c2⟩ := (HC.out.kp hgr.kp) k (by omega)
      have hr := HG.out k (by omega)
      have hEB := HE.out.at (i := k) (by have := HL.out; omega)
      unfold rightE at hr
      have hms : refMin es (k + 1) = if (es.getD k e0).1 < refMin es k then (es.getD k e0).1 else refMin es k := rfl
      have HMS := Lib.hid hms
      clear hms
      generalize (es.getD k e0).1 = v at *
      generalize (es.getD k e0).2.1 = r at *
      generalize (es.getD k e0).2.2 = w at *
      generalize refMin es k = m at *
      have H := fun W => Lib.hid (refRight_t W hEB hr)
      have HGR := Lib.hid hgr
      clear hgr hr hEB
      by_cases hv : v < m
      · have HS : Hid (refMin es (k + 1) = v) := HMS.out.trans (if_pos hv)
        go_wp2_with fail
        refine ((H _).out).mono ?_
        rintro e w1 ⟨rfl, rfl⟩
        have d0 : ∀ o, (wr.alloc o).cell? ⟨b, off + k * 3, none⟩ = some (.int .u64 v) := fun o => (((Kp.refl _ wr).alloc (Nat.le_refl _) o).cell (p := ⟨b, off + k * 3, none⟩) hb).trans c0
        go_wp2_with fail
        go_roundw
        case rel => exact ⟨k + 1, by omega, by go_num, by rw [HS.out], HGR.out.alloc _⟩
        case measure => simp [intOf]; omega
      · have HS : Hid (refMin es (k + 1) = m) := HMS.out.trans (if_neg hv)
        have g : decide (v < m) = false := decide_eq_false hv
        clear hv
        go_wp2_with fail
        refine ((H _).out).mono ?_
        rintro e w1 ⟨rfl, rfl⟩
        have d0 : ∀ o, (wr.alloc o).cell? ⟨b, off + k * 3, none⟩ = some (.int .u64 v) := fun o => (((Kp.refl _ wr).alloc (Nat.le_refl _) o).cell (p := ⟨b, off + k * 3, none⟩) hb).trans c0
        go_wp2_with fail
        go_roundw
        case rel => exact ⟨k + 1, by omega, by go_num, by rw [HS.out], HGR.out.alloc _⟩
        case measure => simp [intOf]; omega
    · have hz : k = len := by omega
      subst hz
      have HGR := Lib.hid hgr
      clear hgr hk
      by_cases h0 : (0 : Int) < (k : Int)
      · by_cases hf : f < refMin es k
        · have HX : Hid (flV f es = refMin es k) := HF.out.trans (by rw [if_neg (by omega), if_pos hf])
          generalize refMin es k = m at *
          go_wp2_with fail
          go_ret2
          exact ⟨retUI HX.out.symm rfl, HGR.out⟩
        · have HX : Hid (flV f es = f) := HF.out.trans (by rw [if_neg (by omega), if_neg hf])
          have g : decide (f < refMin es k) = false := decide_eq_false hf
          clear hf
          generalize refMin es k = m at *
          go_wp2_with fail
          go_ret2
          exact ⟨retUI HX.out.symm rfl, HGR.out⟩
      · have HX : Hid (flV f es = f) := HF.out.trans (by rw [if_pos (by omega)])
        have hk0 : k = 0 := by omega
        subst hk0
        clear h0 hlt
        go_wp2_with fail
        go_ret2
        exact ⟨retUI HX.out.symm rfl, HGR.out⟩

set_option maxRecDepth 100000 in
set_option maxHeartbeats 1000000 in
theorem refFloor_bad {f : Int} (W : World) (A : Option Addr) (cap : Nat) (es : List E3) (hmax : (es.length : Int) ≤ 3000000000000000000) (hc : IsEnts W A es.length es) (hE : EBs es)
    (m : Nat) (hm : m < es.length) (hb : rightE (es.getD m e0) = false) (hg : ∀ j, j < m → rightE (es.getD j e0) = true) :
    Calls Try.prog 60 #[.int .u64 f, .slice A es.length cap] W fun e w' => e = .returned (.tuple #[.int .u64 0, .int .i64 2]) ∧ GrewS W w' := by
  have HC := Lib.hid hc
  have HE := Lib.hid hE
  have HG := Lib.hid hg
  have HB := Lib.hid hb
  clear hc hE hg hb
  generalize hlen : es.length = len at *
  have HL := Lib.hid hlen
  clear hlen
  go_enter Try.func60, Try.ntmps60
  go_wp2
  go_loopw [6, 7] (fun s i wr => ∃ k : Nat, k ≤ m ∧ i = .int .i64 k ∧ s = .int .u64 (refMin es k) ∧ GrewS W wr) (fun _ i _ => len - (intOf i).toNat)
  case atStart => exact ⟨0, Nat.zero_le _, rfl, rfl, GrewS.refl _⟩
  case round =>
    obtain ⟨k, hk, rfl, rfl, hgr⟩ := hrel
    have hlt : (k : Int) < len := by omega
    obtain ⟨b, off, rfl, hb, c0, c1, c2⟩ := (HC.out.kp hgr.kp) k (by omega)
    have hEB := HE.out.at (i := k) (by have := HL.out; omega)
    by_cases hkm : k < m
    · have hr := HG.out k hkm
      unfold rightE at hr
      have hms : refMin es (k + 1) = if (es.getD k e0).1 < refMin es k then (es.getD k e0).1 else refMin es k := rfl
      have HMS := Lib.hid hms
      clear hms
      generalize (es.getD k e0).1 = v at *
      generalize (es.getD k e0).2.1 = r at *
      generalize (es.getD k e0).2.2 = w at *
      generalize refMin es k = q at *
      have H := fun W => Lib.hid (refRight_t W hEB hr)
      have HGR := Lib.hid hgr
      clear hgr hr hEB
      by_cases hv : v < q
      · have HS : Hid (refMin es (k + 1) = v) := HMS.out.trans (if_pos hv)
        go_wp2_with fail
        refine ((H _).out).mono ?_
        rintro e w1 ⟨rfl, rfl⟩
        have d0 : ∀ o, (wr.alloc o).cell? ⟨b, off + k * 3, none⟩ = some (.int .u64 v) := fun o => (((Kp.refl _ wr).alloc (Nat.le_refl _) o).cell (p := ⟨b, off + k * 3, none⟩) hb).trans c0
        go_wp2_with fail
        go_roundw
        case rel => exact ⟨k + 1, by omega, by go_num, by rw [HS.out], HGR.out.alloc _⟩
        case measure => simp [intOf]; omega
      · have HS : Hid (refMin es (k + 1) = q) := HMS.out.trans (if_neg hv)
        have g : decide (v < q) = false := decide_eq_false hv
        clear hv
        go_wp2_with fail
        refine ((H _).out).mono ?_
        rintro e w1 ⟨rfl, rfl⟩
        have d0 : ∀ o, (wr.alloc o).cell? ⟨b, off + k * 3, none⟩ = some (.int .u64 v) := fun o => (((Kp.refl _ wr).alloc (Nat.le_refl _) o).cell (p := ⟨b, off + k * 3, none⟩) hb).trans c0
        go_wp2_with fail
        go_roundw
        case rel => exact ⟨k + 1, by omega, by go_num, by rw [HS.out], HGR.out.alloc _⟩
        case measure => simp [intOf]; omega
    · have hz : k = m := by omega
      subst hz
      have hr := HB.out
      unfold rightE at hr
      generalize (es.getD k e0).1 = v at *
      generalize (es.getD k e0).2.1 = r at *
      generalize (es.getD k e0).2.2 = w at *
      have H := fun W => Lib.hid (refRight_f W hEB hr)
      have HGR := Lib.hid hgr
      clear hgr hr hEB hkm hk
      go_wp2_with fail
      refine ((H _).out).mono ?_
      rintro e w1 ⟨rfl, rfl⟩
      go_wp2_with fail
      go_ret2
      exact ⟨rfl, HGR.out.alloc _⟩

theorem refFloor_any {f : Int} (W : World) (A : Option Addr) (cap : Nat) (es : List E3) (hmax : (es.length : Int) ≤ 3000000000000000000) (hc : IsEnts W A es.length es) (hE : EBs es) :
    Calls Try.prog 60 #[.int .u64 f, .slice A es.length cap] W fun e w' => e = .returned (.tuple #[.int .u64 (iff (es.all rightE) (flV f es)), .int .i64 (flE es)]) ∧ GrewS W w' := by
  rcases good_or_bad es with ⟨h1, h2⟩ | ⟨h1, m, h2, h3, h4⟩
  · refine (refFloor_good W A cap es hmax hc hE h1).mono fun e w' ⟨he, hw⟩ => ⟨he.trans (retUI ?_ ?_), hw⟩
    · rw [h2]; rfl
    · rw [flE, h2]; rfl
  · refine (refFloor_bad W A cap es hmax hc hE m h2 h3 h4).mono fun e w' ⟨he, hw⟩ => ⟨he.trans (retUI ?_ ?_), hw⟩
    · rw [h1]; rfl
    · rw [flE, h1]; rfl
end Go.Proofs.Ytmlapjaccmoleaa
