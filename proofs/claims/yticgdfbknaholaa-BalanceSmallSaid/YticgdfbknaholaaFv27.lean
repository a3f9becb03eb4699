/-
  Several small texts as one.
-/
import Derived.Test.YticgdfbknaholaaMx27
import Derived.Test.YticgdfbknaholaaAwake27
import Derived.Test.YticgdfbknaholaaFairV27

namespace Go.Proofs.Yticgdfbknaholaa
open Go.RowKit

structure MadeAt (W w : World) (v : Value) (N la : Nat) (A B : Option Addr) (ca cb : Nat) (ts : List Tk) (cur : List Int) : Prop where
  v : v = .agg #[.int .i64 (N : Int), .slice A la ca, .slice B N cb]
  sc : ScAt w A la B N ⟨(N : Int), ts, cur⟩
  fit : Sc.fit ⟨(N : Int), ts, cur⟩
  n1 : 1 ≤ N
  n8 : N ≤ 8
  l40 : la ≤ 40
  row : w.ownsRow W.heap.size 43 8 (.slice A la ca) la (flatT ts)
  cow : w.ownsRow W.heap.size 3 1 (.slice B N cb) N (cur.map (Value.int .i64))
  kp : Kp W.heap.size W w
theorem madeSc_any (W : World) {A B : Option Addr} {la ca lb cb : Nat} {a : Int} {xs : List Xt} {zs : List Int} (h : SmAt W A la ca B lb cb a xs zs) :
    Calls Try.prog 11 #[.agg #[.int .u8 a, .slice A la ca, .slice B lb cb]] W fun e w' => ∃ v N la A B ca cb ts cur, e = .returned v ∧ MadeAt W w' v N la A B ca cb ts cur := by
  refine (made_any W h).mono ?_
  rintro e w ⟨v, s, rfl, hr, hf, h8, h40, hk⟩
  have ho := hr.own (by omega) (by have := hf.cur; have := hf.n64; omega)
  obtain ⟨n, ts, cur⟩ := s
  have hn := hf.cur
  dsimp only at hn h8 h40
  subst hn
  obtain ⟨A, ca, B, cb, rfl, hsc, _⟩ := ho.ex
  obtain ⟨x, y, e, h1, h2, h3⟩ := hr.ex
  cases e
  have := hf.n1
  dsimp only at this
  exact ⟨_, cur.length, ts.length, A, B, ca, cb, ts, cur, rfl, rfl, hsc, hf, by omega, by omega, h40, h1, h2, hk⟩
theorem MadeAt.kps {W w w' : World} {v : Value} {N la : Nat} {A B : Option Addr} {ca cb : Nat} {ts : List Tk} {cur : List Int} (h : MadeAt W w v N la A B ca cb ts cur) (k : Kp w.heap.size w w') : MadeAt W w' v N la A B ca cb ts cur :=
  ⟨h.v, h.sc.kp k, h.fit, h.n1, h.n8, h.l40, own_kp h.row k, own_kp h.cow k, h.kp.trans (k.mono h.kp.size)⟩
end Go.Proofs.Yticgdfbknaholaa

namespace Go.Proofs.Yticgdfbknaholaa
open Go.RowKit

set_option maxRecDepth 100000 in
set_option maxHeartbeats 1000000 in
theorem max_any (W : World) {b n c : Nat} {f : Nat → Int} (h : Row W b n (fun c => .int .i64 (f c))) (h0 : 0 < n) (h1 : n ≤ 1000) :
    Calls Try.prog 17 #[.slice (some ⟨b, 0, none⟩) n c] W fun e w' => ∃ m : Int, e = .returned (.int .i64 m) ∧ (∃ i, i < n ∧ m = f i) ∧ (∀ j, j < n → f j ≤ m) ∧ W = w' := by
  have HR := Lib.hid h
  have c0 := h.cells 0 h0
  have bl := h.lt
  have hn1 : (1 : Int) ≤ (n : Int) := by omega
  have hn0 : (0 : Int) < (n : Int) := by omega
  clear h
  go_enter Try.func17, Try.ntmps17
  go_wp2_with fail
  go_loopw [3, 4] (fun m i wr => ∃ (k : Nat) (x : Int), 0 < k ∧ k ≤ n ∧ i = .int .i64 (k : Int) ∧ m = .int .i64 x ∧ (∃ i, i < k ∧ x = f i) ∧ (∀ j, j < k → f j ≤ x) ∧ W = wr) (fun _ i _ => n - (intOf i).toNat)
  case atStart => exact ⟨1, f 0, by decide, by omega, rfl, rfl, ⟨0, by decide, rfl⟩, fun j hj => by rw [show j = 0 by omega]; exact Int.le_refl _, rfl⟩
  case round =>
    obtain ⟨k, x, hk0, hk, rfl, rfl, hex, hall, rfl⟩ := hrel
    have HE := Lib.hid hex
    have HA := Lib.hid hall
    clear hex hall c0
    by_cases hlt : k < n
    · have hki : (k : Int) < (n : Int) := by omega
      have ck := HR.out.cells k hlt
      obtain ⟨y, hy⟩ : ∃ y, y = f k := ⟨_, rfl⟩
      rw [← hy] at ck
      have HY := Lib.hid hy
      clear hy
      rcases Int.lt_or_le x y with hxy | hxy
      · go_wp2_with fail
        go_roundw
        case rel =>
          refine ⟨k + 1, y, by omega, by omega, by go_num, rfl, ?_, fun j hj => ?_, by first | trivial | rfl⟩
          · exact ⟨k, by omega, HY.out⟩
          · rcases Nat.lt_or_ge j k with h2 | h2
            · have := HA.out j h2; omega
            · rw [show j = k by omega, ← HY.out]; omega
        case measure => simp [intOf]; omega
      · go_wp2_with fail
        go_roundw
        case rel =>
          refine ⟨k + 1, x, by omega, by omega, by go_num, rfl, ?_, fun j hj => ?_, by first | trivial | rfl⟩
          · (obtain ⟨i, h1, h2⟩ := HE.out; exact ⟨i, by omega, h2⟩)
          · rcases Nat.lt_or_ge j k with h2 | h2
            · have := HA.out j h2; omega
            · rw [show j = k by omega, ← HY.out]; omega
        case measure => simp [intOf]; omega
    · have hke : k = n := by omega
      subst hke
      have hkn : ¬ ((k : Int) < (k : Int)) := by omega
      go_wp2_with fail
      go_ret
      exact ⟨x, rfl, HE.out, HA.out, rfl⟩
set_option maxRecDepth 100000 in
set_option maxHeartbeats 1000000 in
theorem min_any (W : World) {b n c : Nat} {f : Nat → Int} (h : Row W b n (fun c => .int .i64 (f c))) (h0 : 0 < n) (h1 : n ≤ 1000) :
    Calls Try.prog 18 #[.slice (some ⟨b, 0, none⟩) n c] W fun e w' => ∃ m : Int, e = .returned (.int .i64 m) ∧ (∃ i, i < n ∧ m = f i) ∧ (∀ j, j < n → m ≤ f j) ∧ W = w' := by
  have HR := Lib.hid h
  have c0 := h.cells 0 h0
  have bl := h.lt
  have hn1 : (1 : Int) ≤ (n : Int) := by omega
  have hn0 : (0 : Int) < (n : Int) := by omega
  clear h
  go_enter Try.func18, Try.ntmps18
  go_wp2_with fail
  go_loopw [3, 4] (fun m i wr => ∃ (k : Nat) (x : Int), 0 < k ∧ k ≤ n ∧ i = .int .i64 (k : Int) ∧ m = .int .i64 x ∧ (∃ i, i < k ∧ x = f i) ∧ (∀ j, j < k → x ≤ f j) ∧ W = wr) (fun _ i _ => n - (intOf i).toNat)
  case atStart => exact ⟨1, f 0, by decide, by omega, rfl, rfl, ⟨0, by decide, rfl⟩, fun j hj => by rw [show j = 0 by omega]; exact Int.le_refl _, rfl⟩
  case round =>
    obtain ⟨k, x, hk0, hk, rfl, rfl, hex, hall, rfl⟩ := hrel
    have HE := Lib.hid hex
    have HA := Lib.hid hall
    clear hex hall c0
    by_cases hlt : k < n
    · have hki : (k : Int) < (n : Int) := by omega
      have ck := HR.out.cells k hlt
      obtain ⟨y, hy⟩ : ∃ y, y = f k := ⟨_, rfl⟩
      rw [← hy] at ck
      have HY := Lib.hid hy
      clear hy
      rcases Int.lt_or_le y x with hxy | hxy
      · go_wp2_with fail
        go_roundw
        case rel =>
          refine ⟨k + 1, y, by omega, by omega, by go_num, rfl, ?_, fun j hj => ?_, by first | trivial | rfl⟩
          · exact ⟨k, by omega, HY.out⟩
          · rcases Nat.lt_or_ge j k with h2 | h2
            · have := HA.out j h2; omega
            · rw [show j = k by omega, ← HY.out]; omega
        case measure => simp [intOf]; omega
      · go_wp2_with fail
        go_roundw
        case rel =>
          refine ⟨k + 1, x, by omega, by omega, by go_num, rfl, ?_, fun j hj => ?_, by first | trivial | rfl⟩
          · (obtain ⟨i, h1, h2⟩ := HE.out; exact ⟨i, by omega, h2⟩)
          · rcases Nat.lt_or_ge j k with h2 | h2
            · have := HA.out j h2; omega
            · rw [show j = k by omega, ← HY.out]; omega
        case measure => simp [intOf]; omega
    · have hke : k = n := by omega
      subst hke
      have hkn : ¬ ((k : Int) < (k : Int)) := by omega
      go_wp2_with fail
      go_ret
      exact ⟨x, rfl, HE.out, HA.out, rfl⟩
end Go.Proofs.Yticgdfbknaholaa

