/-
  The contracts of Level, and of the reference's functions (but Total).
-/
import Derived.Test.YtgfmgfblmfacgaaDoorKit
namespace Go.Proofs.YtgfmgfblmfacgaaDoor
open Go.RowKit

theorem idx_any (k : Nat) (hk : k < 36) (w : World) : (Instr.index 55 (.agg tabRow) (.int .i64 k)).run Tryd.prog w = .ok (.int .i64 (tab.getD k 0)) w := by
  have hs : (sizeOf 3).run Tryd.prog w = .ok 1 w := by kernel_rfl
  have hp : (part 3 tabRow k).run Tryd.prog w = .ok (.int .i64 (tab.getD k 0)) w := by
    have hq : tabRow[k]? = some (.int .i64 (tab.getD k 0)) := by
      have : tabRow[k]? = (tab[k]?).map (Value.int .i64) := by unfold tabRow; simp
      rw [this, List.getD_eq_getElem?_getD, List.getElem?_eq_getElem (by simpa [tab] using hk)]
      rfl
    have ha : (isAgg 3).run Tryd.prog w = .ok false w := by kernel_rfl
    simp only [part, Sem.run_bind, ha, Result.andThen, Bool.false_eq_true, if_false, hq]
    rfl
  simp only [Instr.index, asIntOf, Sem.run_bind, Sem.run_pure, Result.andThen, run_underlying Tryd.underlying55]
  rw [if_pos (by omega), Int.toNat_natCast]
  simpa [Sem.run_bind, hs, Result.andThen] using hp

/-- The first level from k on whose weight is at most w; 35 if there is none. -/
def levF (w : Int) : Nat → Nat → Nat
  | 0, _ => 35
  | f + 1, k => if tab.getD k 0 ≤ w then k else levF w f (k + 1)
def lvV (w : Int) : Int := if weB w then (levF w 36 0 : Nat) else 0

set_option maxRecDepth 100000 in
set_option maxHeartbeats 400000 in
theorem level_yes (w : Int) (W : World) (hT : TabW W) (h1 : 1 ≤ w) (h2 : w ≤ 65536) :
    Calls Tryd.prog 23 #[.int .i64 w] W fun e w' => e = .returned (.tuple #[.int .i64 (levF w 36 0 : Nat), .int .i64 0]) ∧ W = w' := by
  obtain ⟨t, fr, hg⟩ := hT
  go_enter Tryd.func23, Tryd.ntmps23
  go_wp2_with (first | go_in | refine wpList_load_row rfl 55 _ rfl 0 rfl t tabRow fr _ hg Tryd.underlying55 rfl (by kernel_rfl) ?_)
  go_loop [10] (fun i => ∃ k : Nat, k ≤ 36 ∧ i = .int .i64 k ∧ levF w (36 - k) k = levF w 36 0) (fun i => 36 - (intOf i).toNat)
  case atStart => exact ⟨0, Nat.zero_le _, rfl, rfl⟩
  case round =>
    obtain ⟨k, hk, rfl, hl⟩ := hrel
    by_cases hlt : (k : Int) < 36
    · have hix := idx_any k (by omega)
      have hs : levF w (36 - k) k = if tab.getD k 0 ≤ w then k else levF w (36 - (k + 1)) (k + 1) := by
        rw [show 36 - k = (36 - (k + 1)) + 1 from by omega]; rfl
      generalize tab.getD k 0 = x at hix hs
      by_cases hx : x ≤ w
      · rw [if_pos hx] at hs
        have HS := Lib.hid (hl.symm.trans hs)
        clear hs hl
        go_wp2
        go_ret2
        exact ⟨ret2 (by rw [HS.out]) rfl, rfl⟩
      · rw [if_neg hx] at hs
        have HS := Lib.hid (hs.symm.trans hl)
        clear hs hl
        go_wp2
        go_round
        case rel => exact ⟨k + 1, by omega, by go_num, HS.out⟩
        case measure => simp [intOf]; omega
    · have hz : k = 36 := by omega
      subst hz
      have HS := Lib.hid hl
      clear hl
      go_wp2
      go_ret2
      exact ⟨ret2 (by rw [← HS.out]; rfl) rfl, rfl⟩

theorem level_any (w : Int) (W : World) (hT : TabW W) :
    Calls Tryd.prog 23 #[.int .i64 w] W fun e w' => e = .returned (.tuple #[.int .i64 (lvV w), .int .i64 (weE w)]) ∧ W = w' := by
  by_cases h3 : w < 1
  · have hb := weB_false (w := w) (Or.inl h3)
    refine Calls.mono (R := fun e w' => e = .returned (.tuple #[.int .i64 0, .int .i64 2]) ∧ W = w') ?_ fun e w' ⟨he, hw⟩ => ⟨he.trans (ret2 ?_ ?_), hw⟩
    · clear hb
      go_enter Tryd.func23, Tryd.ntmps23
      go_wp2
      go_ret2
      exact ⟨rfl, rfl⟩
    · simp [lvV, hb]
    · simp [weE, hb]
  by_cases h4 : 65536 < w
  · have hb := weB_false (w := w) (Or.inr h4)
    refine Calls.mono (R := fun e w' => e = .returned (.tuple #[.int .i64 0, .int .i64 2]) ∧ W = w') ?_ fun e w' ⟨he, hw⟩ => ⟨he.trans (ret2 ?_ ?_), hw⟩
    · have h5 : 1 ≤ w := by omega
      have h6 : decide (w ≤ 65536) = false := decide_eq_false (by omega)
      clear hb h3 h4
      go_enter Tryd.func23, Tryd.ntmps23
      go_wp2
      go_ret2
      exact ⟨rfl, rfl⟩
    · simp [lvV, hb]
    · simp [weE, hb]
  · refine (level_yes w W hT (by omega) (by omega)).mono fun e w' ⟨he, hw⟩ => ⟨he.trans (ret2 ?_ ?_), hw⟩ <;> simp [lvV, weE, weB_true (w := w) (by omega) (by omega)]

theorem tab_bd : ∀ l : Fin 36, 0 ≤ tab.getD l 0 ∧ tab.getD l 0 ≤ 65536 := by decide
theorem tab_up : ∀ l : Fin 18, (5 * tab.getD (l + 1) 0 + 2) / 4 = tab.getD l 0 := by decide
theorem tab_down : ∀ l : Fin 17, (4 * tab.getD (l + 18) 0 + 2) / 5 = tab.getD (l + 19) 0 := by decide

set_option maxHeartbeats 400000 in
theorem refOf_low (l : Nat) (W : World) (h2 : (l : Int) ≤ 18) :
    Calls Tryd.prog 27 #[.int .i64 l] W fun e w' => e = .returned (.tuple #[.int .i64 (tab.getD l 0), .int .i64 0]) ∧ W = w' := by
  go_enter Tryd.func27, Tryd.ntmps27
  go_wp2
  go_loop [4, 5] (fun v i => ∃ k : Nat, l ≤ k ∧ k ≤ 18 ∧ i = .int .i64 k ∧ v = .int .i64 (tab.getD k 0)) (fun _ i => (intOf i).toNat)
  case atStart => exact ⟨18, by omega, Nat.le_refl _, rfl, rfl⟩
  case round =>
    obtain ⟨k, hk1, hk2, rfl, rfl⟩ := hrel
    by_cases hlt : l < k
    · obtain ⟨m, rfl⟩ : ∃ m, k = m + 1 := ⟨k - 1, by omega⟩
      have hb := tab_bd ⟨m + 1, by omega⟩
      have hu := tab_up ⟨m, by omega⟩
      simp only at hb hu
      have hlt' : (l : Int) < (m : Int) + 1 := by omega
      generalize tab.getD (m + 1) 0 = x at hb hu ⊢
      have HU := Lib.hid hu
      obtain ⟨hb1, hb2⟩ := hb
      have hm : (m : Int) ≤ 17 := by omega
      clear hu hlt hk1 hk2
      go_wp2
      go_round
      case rel => exact ⟨m, by omega, by omega, rfl, by rw [HU.out]⟩
      case measure => simp [intOf]
    · have hz : k = l := by omega
      subst hz
      clear hlt hk1 hk2
      go_wp2
      go_loop [4, 6] (fun v i => v = .int .i64 (tab.getD k 0) ∧ i = .int .i64 18) (fun _ i => 0)
      case atStart => exact ⟨rfl, rfl⟩
      case round =>
        obtain ⟨rfl, rfl⟩ := hrel
        go_wp2
        go_ret2
        exact ⟨rfl, rfl⟩

set_option maxHeartbeats 400000 in
theorem refOf_high (l : Nat) (W : World) (h1 : 18 < (l : Int)) (h2 : (l : Int) ≤ 35) :
    Calls Tryd.prog 27 #[.int .i64 l] W fun e w' => e = .returned (.tuple #[.int .i64 (tab.getD l 0), .int .i64 0]) ∧ W = w' := by
  go_enter Tryd.func27, Tryd.ntmps27
  go_wp2
  go_loop [4, 5] (fun v i => v = .int .i64 1024 ∧ i = .int .i64 18) (fun _ i => 0)
  case atStart => exact ⟨rfl, rfl⟩
  case round =>
    obtain ⟨rfl, rfl⟩ := hrel
    go_wp2
    go_loop [4, 6] (fun v i => ∃ k : Nat, 18 ≤ k ∧ k ≤ l ∧ i = .int .i64 k ∧ v = .int .i64 (tab.getD k 0)) (fun _ i => l - (intOf i).toNat)
    case atStart => exact ⟨18, by omega, by omega, rfl, rfl⟩
    case round =>
      obtain ⟨k, hk1, hk2, rfl, rfl⟩ := hrel
      by_cases hlt : k < l
      · obtain ⟨m, rfl⟩ : ∃ m, k = m + 18 := ⟨k - 18, by omega⟩
        have hb := tab_bd ⟨m + 18, by omega⟩
        have hu := tab_down ⟨m, by omega⟩
        simp only at hb hu
        have hlt' : (m : Int) + 18 < (l : Int) := by omega
        generalize tab.getD (m + 18) 0 = x at hb hu ⊢
        have HU := Lib.hid hu
        obtain ⟨hb1, hb2⟩ := hb
        clear hu hlt hk1 hk2
        go_wp2
        go_round
        case rel => exact ⟨m + 19, by omega, by omega, by simp only [Value.int.injEq, true_and]; omega, by rw [HU.out]⟩
        case measure => simp [intOf]; omega
      · have hz : k = l := by omega
        subst hz
        clear hlt hk1 hk2
        go_wp2
        go_ret2
        exact ⟨rfl, rfl⟩

theorem refOf_yes (l : Nat) (W : World) (h2 : (l : Int) ≤ 35) :
    Calls Tryd.prog 27 #[.int .i64 l] W fun e w' => e = .returned (.tuple #[.int .i64 (tab.getD l 0), .int .i64 0]) ∧ W = w' := by
  by_cases h : (l : Int) ≤ 18
  · exact refOf_low l W h
  · exact refOf_high l W (by omega) h2

theorem refOf_any (l : Int) (W : World) :
    Calls Tryd.prog 27 #[.int .i64 l] W fun e w' => e = .returned (.tuple #[.int .i64 (ofV l), .int .i64 (ofE l)]) ∧ W = w' := by
  by_cases h : 0 ≤ l ∧ l ≤ 35
  · obtain ⟨n, rfl⟩ := Int.eq_ofNat_of_zero_le h.1
    refine (refOf_yes n W (by omega)).mono fun e w' ⟨he, hw⟩ => ⟨he.trans (ret2 ?_ ?_), hw⟩
    · simp only [ofV, if_pos h, Int.toNat_natCast]
    · simp only [ofE, if_pos h]
  · refine Calls.mono (R := fun e w' => e = .returned (.tuple #[.int .i64 0, .int .i64 2]) ∧ W = w') ?_ fun e w' ⟨he, hw⟩ => ⟨he.trans (ret2 ?_ ?_), hw⟩
    · by_cases h0 : l < 0
      · clear h
        go_enter Tryd.func27, Tryd.ntmps27
        go_wp2
        go_ret2
        exact ⟨rfl, rfl⟩
      · have h1 : 35 < l := by omega
        have h2 : 0 ≤ l := by omega
        clear h h0
        go_enter Tryd.func27, Tryd.ntmps27
        go_wp2
        go_ret2
        exact ⟨rfl, rfl⟩
    · simp only [ofV, if_neg h]
    · simp only [ofE, if_neg h]

theorem refWeighs_yes (w : Int) (W : World) (h1 : 1 ≤ w) (h2 : w ≤ 65536) :
    Calls Tryd.prog 40 #[.int .i64 w] W fun e w' => e = .returned (.bool true) ∧ W = w' := by
  go_enter Tryd.func40, Tryd.ntmps40
  go_wp2
  go_ret
  exact ⟨rfl, rfl⟩

set_option maxHeartbeats 400000 in
theorem refLevel_yes (w : Int) (W : World) (h1 : 1 ≤ w) (h2 : w ≤ 65536) :
    Calls Tryd.prog 28 #[.int .i64 w] W fun e w' => e = .returned (.tuple #[.int .i64 (levF w 36 0 : Nat), .int .i64 0]) ∧ W = w' := by
  go_enter Tryd.func28, Tryd.ntmps28
  go_wp2_with (go_at_call 40; refine (refWeighs_yes _ _ h1 h2).mono ?_; rintro e w' ⟨rfl, rfl⟩)
  go_loop [4] (fun i => ∃ k : Nat, k ≤ 36 ∧ i = .int .i64 k ∧ levF w (36 - k) k = levF w 36 0) (fun i => 36 - (intOf i).toNat)
  case atStart => exact ⟨0, Nat.zero_le _, rfl, rfl⟩
  case round =>
    obtain ⟨k, hk, rfl, hl⟩ := hrel
    by_cases hlt : (k : Int) < 36
    · have hix := fun W => refOf_yes k W (by omega)
      have hs : levF w (36 - k) k = if tab.getD k 0 ≤ w then k else levF w (36 - (k + 1)) (k + 1) := by
        rw [show 36 - k = (36 - (k + 1)) + 1 from by omega]; rfl
      generalize tab.getD k 0 = x at hix hs
      have HX := Lib.hid hix
      clear hix
      by_cases hx : x ≤ w
      · rw [if_pos hx] at hs
        have HS := Lib.hid (hl.symm.trans hs)
        clear hs hl
        go_wp2_with (go_at_call 27; refine (HX.out _).mono ?_; rintro e w' ⟨rfl, rfl⟩)
        go_ret2
        exact ⟨ret2 (by rw [HS.out]) rfl, rfl⟩
      · rw [if_neg hx] at hs
        have HS := Lib.hid (hs.symm.trans hl)
        clear hs hl
        go_wp2_with (go_at_call 27; refine (HX.out _).mono ?_; rintro e w' ⟨rfl, rfl⟩)
        go_round
        case rel => exact ⟨k + 1, by omega, by go_num, HS.out⟩
        case measure => simp [intOf]; omega
    · have hz : k = 36 := by omega
      subst hz
      have HS := Lib.hid hl
      clear hl
      go_wp2
      go_ret2
      exact ⟨ret2 (by rw [← HS.out]; rfl) rfl, rfl⟩

theorem refLevel_any (w : Int) (W : World) :
    Calls Tryd.prog 28 #[.int .i64 w] W fun e w' => e = .returned (.tuple #[.int .i64 (lvV w), .int .i64 (weE w)]) ∧ W = w' := by
  by_cases h3 : w < 1
  · have hb := weB_false (w := w) (Or.inl h3)
    refine Calls.mono (R := fun e w' => e = .returned (.tuple #[.int .i64 0, .int .i64 2]) ∧ W = w') ?_ fun e w' ⟨he, hw⟩ => ⟨he.trans (ret2 ?_ ?_), hw⟩
    · clear hb
      go_enter Tryd.func28, Tryd.ntmps28
      go_wp2
      go_ret2
      exact ⟨rfl, rfl⟩
    · simp [lvV, hb]
    · simp [weE, hb]
  by_cases h4 : 65536 < w
  · have hb := weB_false (w := w) (Or.inr h4)
    refine Calls.mono (R := fun e w' => e = .returned (.tuple #[.int .i64 0, .int .i64 2]) ∧ W = w') ?_ fun e w' ⟨he, hw⟩ => ⟨he.trans (ret2 ?_ ?_), hw⟩
    · have h5 : 1 ≤ w := by omega
      have h6 : decide (w ≤ 65536) = false := decide_eq_false (by omega)
      clear hb h3 h4
      go_enter Tryd.func28, Tryd.ntmps28
      go_wp2
      go_ret2
      exact ⟨rfl, rfl⟩
    · simp [lvV, hb]
    · simp [weE, hb]
  · refine (refLevel_yes w W (by omega) (by omega)).mono fun e w' ⟨he, hw⟩ => ⟨he.trans (ret2 ?_ ?_), hw⟩ <;> simp [lvV, weE, weB_true (w := w) (by omega) (by omega)]

end Go.Proofs.YtgfmgfblmfacgaaDoor
