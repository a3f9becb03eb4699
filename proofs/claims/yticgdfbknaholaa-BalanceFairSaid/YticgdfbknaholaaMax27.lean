/-
  The contracts of Max and Min.
-/
import Derived.Test.YticgdfbknaholaaFairV27
namespace Go.Proofs.Yticgdfbknaholaa
open Go.RowKit

set_option maxRecDepth 100000 in
set_option maxHeartbeats 1000000 in
theorem max_any (W : World) {b n c : Nat} {f : Nat → Int} (h : Row W b n (fun c => .int .i64 (f c))) (h0 : 0 < n) (h1 : n ≤ 1000) :
    Calls Try.prog 17 #[.slice (some ⟨b, 0, none⟩) n c] W fun e w' => ∃ m : Int, e = .returned (.int .i64 m) ∧ (∃ i, i < n ∧ m = f i) ∧ (∀ j, j < n → f j ≤ m) ∧ W = w' := by
  have HR := Lib.hid h
  have c0 := h.cells 0 h0
  have bl := h.lt
  have hn1 : (1 : Int) ≤ (n : Int) := by omega
  have hn0 : (0 : Int) < (n : Int) := by omega
  clear h
  go_enter Try.func17, Try.ntmps17
  go_wp2_with fail
  go_loopw [3, 4] (fun m i wr => ∃ (k : Nat) (x : Int), 0 < k ∧ k ≤ n ∧ i = .int .i64 (k : Int) ∧ m = .int .i64 x ∧ (∃ i, i < k ∧ x = f i) ∧ (∀ j, j < k → f j ≤ x) ∧ W = wr) (fun _ i _ => n - (intOf i).toNat)
  case atStart => exact ⟨1, f 0, by decide, by omega, rfl, rfl, ⟨0, by decide, rfl⟩, fun j hj => by rw [show j = 0 by omega]; exact Int.le_refl _, rfl⟩
  case round =>
    obtain ⟨k, x, hk0, hk, rfl, rfl, hex, hall, rfl⟩ := hrel
    have HE := Lib.hid hex
    have HA := Lib.hid hall
    clear hex hall c0
    by_cases hlt : k < n
    · have hki : (k : Int) < (n : Int) := by omega
      have ck := HR.out.cells k hlt
      obtain ⟨y, hy⟩ : ∃ y, y = f k := ⟨_, rfl⟩
      rw [← hy] at ck
      have HY := Lib.hid hy
      clear hy
      rcases Int.lt_or_le x y with hxy | hxy
      · go_wp2_with fail
        go_roundw
        case rel =>
          refine ⟨k + 1, y, by omega, by omega, by go_num, rfl, ?_, fun j hj => ?_, by first | trivial | rfl⟩
          · exact ⟨k, by omega, HY.out⟩
          · rcases Nat.lt_or_ge j k with h2 | h2
            · have := HA.out j h2; omega
            · rw [show j = k by omega, ← HY.out]; omega
        case measure => simp [intOf]; omega
      · go_wp2_with fail
        go_roundw
        case rel =>
          refine ⟨k + 1, x, by omega, by omega, by go_num, rfl, ?_, fun j hj => ?_, by first | trivial | rfl⟩
          · (obtain ⟨i, h1, h2⟩ := HE.out; exact ⟨i, by omega, h2⟩)
          · rcases Nat.lt_or_ge j k with h2 | h2
            · have := HA.out j h2; omega
            · rw [show j = k by omega, ← HY.out]; omega
        case measure => simp [intOf]; omega
    · have hke : k = n := by omega
      subst hke
      have hkn : ¬ ((k : Int) < (k : Int)) := by omega
      go_wp2_with fail
      go_ret
      exact ⟨x, rfl, HE.out, HA.out, rfl⟩
set_option maxRecDepth 100000 in
set_option maxHeartbeats 1000000 in
theorem min_any (W : World) {b n c : Nat} {f : Nat → Int} (h : Row W b n (fun c => .int .i64 (f c))) (h0 : 0 < n) (h1 : n ≤ 1000) :
    Calls Try.prog 18 #[.slice (some ⟨b, 0, none⟩) n c] W fun e w' => ∃ m : Int, e = .returned (.int .i64 m) ∧ (∃ i, i < n ∧ m = f i) ∧ (∀ j, j < n → m ≤ f j) ∧ W = w' := by
  have HR := Lib.hid h
  have c0 := h.cells 0 h0
  have bl := h.lt
  have hn1 : (1 : Int) ≤ (n : Int) := by omega
  have hn0 : (0 : Int) < (n : Int) := by omega
  clear h
  go_enter Try.func18, Try.ntmps18
  go_wp2_with fail
  go_loopw [3, 4] (fun m i wr => ∃ (k : Nat) (x : Int), 0 < k ∧ k ≤ n ∧ i = .int .i64 (k : Int) ∧ m = .int .i64 x ∧ (∃ i, i < k ∧ x = f i) ∧ (∀ j, j < k → x ≤ f j) ∧ W = wr) (fun _ i _ => n - (intOf i).toNat)
  case atStart => exact ⟨1, f 0, by decide, by omega, rfl, rfl, ⟨0, by decide, rfl⟩, fun j hj => by rw [show j = 0 by omega]; exact Int.le_refl _, rfl⟩
  case round =>
    obtain ⟨k, x, hk0, hk, rfl, rfl, hex, hall, rfl⟩ := hrel
    have HE := Lib.hid hex
    have HA := Lib.hid hall
    clear hex hall c0
    by_cases hlt : k < n
    · have hki : (k : Int) < (n : Int) := by omega
      have ck := HR.out.cells k hlt
      obtain ⟨y, hy⟩ : ∃ y, y = f k := ⟨_, rfl⟩
      rw [← hy] at ck
      have HY := Lib.hid hy
      clear hy
      rcases Int.lt_or_le y x with hxy | hxy
      · go_wp2_with fail
        go_roundw
        case rel =>
          refine ⟨k + 1, y, by omega, by omega, by go_num, rfl, ?_, fun j hj => ?_, by first | trivial | rfl⟩
          · exact ⟨k, by omega, HY.out⟩
          · rcases Nat.lt_or_ge j k with h2 | h2
            · have := HA.out j h2; omega
            · rw [show j = k by omega, ← HY.out]; omega
        case measure => simp [intOf]; omega
      · go_wp2_with fail
        go_roundw
        case rel =>
          refine ⟨k + 1, x, by omega, by omega, by go_num, rfl, ?_, fun j hj => ?_, by first | trivial | rfl⟩
          · (obtain ⟨i, h1, h2⟩ := HE.out; exact ⟨i, by omega, h2⟩)
          · rcases Nat.lt_or_ge j k with h2 | h2
            · have := HA.out j h2; omega
            · rw [show j = k by omega, ← HY.out]; omega
        case measure => simp [intOf]; omega
    · have hke : k = n := by omega
      subst hke
      have hkn : ¬ ((k : Int) < (k : Int)) := by omega
      go_wp2_with fail
      go_ret
      exact ⟨x, rfl, HE.out, HA.out, rfl⟩
end Go.Proofs.Yticgdfbknaholaa
