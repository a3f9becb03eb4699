/-
  The contracts of Total and of the reference's Total.
-/
import Derived.Test.YtgfmgfblmfacgaaDoorRefs
namespace Go.Proofs.YtgfmgfblmfacgaaDoor
open Go.RowKit

def totV (zs : List Int) : Int := if 65536 < zs.length then 0 else if zs.all weB then zs.sum else 0
def totE (zs : List Int) : Int := if 65536 < zs.length then 5 else if zs.all weB then 0 else 2

theorem weighs_good (z : Int) (W : World) (h : weB z = true) : Calls Tryd.prog 36 #[.int .i64 z] W fun e w' => e = .returned (.bool false) ∧ W = w' := by
  have h1 : 1 ≤ z := (of_decide_eq_true h).1
  have h2 : z ≤ 65536 := (of_decide_eq_true h).2
  clear h
  go_enter Tryd.func36, Tryd.ntmps36
  go_wp2
  go_ret
  exact ⟨rfl, rfl⟩
theorem weighs_bad (z : Int) (W : World) (h : weB z = false) : Calls Tryd.prog 36 #[.int .i64 z] W fun e w' => e = .returned (.bool true) ∧ W = w' := by
  have h0 : ¬ (1 ≤ z ∧ z ≤ 65536) := of_decide_eq_false h
  clear h
  by_cases h1 : z < 1
  · clear h0
    go_enter Tryd.func36, Tryd.ntmps36
    go_wp2
    go_ret
    exact ⟨rfl, rfl⟩
  · have h2 : 1 ≤ z := by omega
    have h3 : decide (z ≤ 65536) = false := decide_eq_false (by omega)
    clear h0 h1
    go_enter Tryd.func36, Tryd.ntmps36
    go_wp2
    go_ret
    exact ⟨rfl, rfl⟩

def SomeNat (W : World) (e : Ending) (w' : World) : Prop := ∃ n : Nat, e = .returned (.int .i64 n) ∧ W = w'

set_option maxHeartbeats 400000 in
theorem index_good (W : World) (a : Option Addr) (len cap : Nat) (zs : List Int) (hmax : (len : Int) ≤ 9223372036854775807) (hc : IsInts W .i64 a len zs) (hg : ∀ i, i < len → weB (zs.getD i 0) = true) :
    Calls Tryd.prog 41 #[.slice a len cap, .func (.func 36) #[] #[]] W fun e w' => e = .returned (.int .i64 (-1)) ∧ W = w' := by
  have HG := Lib.hid hg
  have HC := Lib.hid hc
  clear hg hc
  go_enter Tryd.func41, Tryd.ntmps41
  go_wp2
  go_loop [8] (fun i => ∃ k : Nat, k ≤ len ∧ i = .int .i64 k) (fun i => len - (intOf i).toNat)
  case atStart => exact ⟨0, Nat.zero_le _, rfl⟩
  case round =>
    obtain ⟨k, hk, rfl⟩ := hrel
    by_cases hlt : (k : Int) < len
    · obtain ⟨b, off, rfl, _, hcc⟩ := HC.out k (by omega)
      have hg := HG.out k (by omega)
      generalize zs.getD k 0 = z at hcc hg
      have HGz := Lib.hid hg
      clear hg
      go_wp2_with (go_at_call 36; refine (weighs_good _ _ HGz.out).mono ?_; rintro e w' ⟨rfl, rfl⟩)
      go_round
      case rel => exact ⟨k + 1, by omega, by go_num⟩
      case measure => simp [intOf]; omega
    · go_wp2
      go_ret
      exact ⟨rfl, rfl⟩

set_option maxHeartbeats 400000 in
theorem index_bad (W : World) (a : Option Addr) (len cap : Nat) (zs : List Int) (hmax : (len : Int) ≤ 9223372036854775807) (hc : IsInts W .i64 a len zs) (m : Nat) (hm : m < len) (hb : weB (zs.getD m 0) = false) :
    Calls Tryd.prog 41 #[.slice a len cap, .func (.func 36) #[] #[]] W (SomeNat W) := by
  have HC := Lib.hid hc
  have HB := Lib.hid hb
  clear hb hc
  go_enter Tryd.func41, Tryd.ntmps41
  go_wp2
  go_loop [8] (fun i => ∃ k : Nat, k ≤ m ∧ i = .int .i64 k) (fun i => len - (intOf i).toNat)
  case atStart => exact ⟨0, Nat.zero_le _, rfl⟩
  case round =>
    obtain ⟨k, hk, rfl⟩ := hrel
    have hlt : (k : Int) < len := by omega
    obtain ⟨b, off, rfl, _, hcc⟩ := HC.out k (by omega)
    by_cases hw : weB (zs.getD k 0) = true
    · have hkm : k < m := by
        rcases Nat.lt_or_ge k m with h | h
        · exact h
        · have e : k = m := by omega
          rw [e, HB.out] at hw
          cases hw
      generalize zs.getD k 0 = z at hcc hw
      have HGz := Lib.hid hw
      clear hw
      go_wp2_with (go_at_call 36; refine (weighs_good _ _ HGz.out).mono ?_; rintro e w' ⟨rfl, rfl⟩)
      go_round
      case rel => exact ⟨k + 1, by omega, by go_num⟩
      case measure => simp [intOf]; omega
    · have hw' : weB (zs.getD k 0) = false := by simpa using hw
      clear hw
      generalize zs.getD k 0 = z at hcc hw'
      have HGz := Lib.hid hw'
      clear hw'
      go_wp2_with (go_at_call 36; refine (weighs_bad _ _ HGz.out).mono ?_; rintro e w' ⟨rfl, rfl⟩)
      go_ret
      exact ⟨k, rfl, rfl⟩

theorem contains_good (W : World) (a : Option Addr) (len cap : Nat) (zs : List Int) (hmax : (len : Int) ≤ 9223372036854775807) (hc : IsInts W .i64 a len zs) (hg : ∀ i, i < len → weB (zs.getD i 0) = true) :
    Calls Tryd.prog 35 #[.slice a len cap, .func (.func 36) #[] #[]] W fun e w' => e = .returned (.bool false) ∧ W = w' := by
  have H := fun W' (h : W = W') => Lib.hid (index_good W' a len cap zs hmax (h ▸ hc) hg)
  clear hc hg
  go_enter Tryd.func35, Tryd.ntmps35
  go_wp2_with fail
  refine ((H _ rfl).out).mono ?_
  rintro e w' ⟨rfl, rfl⟩
  go_wp2
  go_ret
  exact ⟨rfl, rfl⟩

theorem contains_bad (W : World) (a : Option Addr) (len cap : Nat) (zs : List Int) (hmax : (len : Int) ≤ 9223372036854775807) (hc : IsInts W .i64 a len zs) (m : Nat) (hm : m < len) (hb : weB (zs.getD m 0) = false) :
    Calls Tryd.prog 35 #[.slice a len cap, .func (.func 36) #[] #[]] W fun e w' => e = .returned (.bool true) ∧ W = w' := by
  have H := fun W' (h : W = W') => Lib.hid (index_bad W' a len cap zs hmax (h ▸ hc) m hm hb)
  clear hc hb hm
  go_enter Tryd.func35, Tryd.ntmps35
  go_wp2_with fail
  refine ((H _ rfl).out).mono ?_
  rintro e w' ⟨n, rfl, rfl⟩
  go_wp2
  go_ret
  exact ⟨rfl, rfl⟩

theorem sum_take_succ (zs : List Int) (k : Nat) (h : k < zs.length) : (zs.take (k + 1)).sum = (zs.take k).sum + zs.getD k 0 := by
  rw [List.take_succ_eq_append_getElem h, List.sum_append, List.getD_eq_getElem?_getD, List.getElem?_eq_getElem h]
  simp
theorem sum_take_bd (zs : List Int) (hg : ∀ i, i < zs.length → weB (zs.getD i 0) = true) : ∀ k, k ≤ zs.length → 0 ≤ (zs.take k).sum ∧ (zs.take k).sum ≤ 65536 * k
  | 0, _ => by simp
  | k + 1, h => by
    have ih := sum_take_bd zs hg k (by omega)
    have h1 := of_decide_eq_true (hg k (by omega))
    rw [sum_take_succ zs k (by omega)]
    omega

theorem good_or_bad (zs : List Int) : ((∀ i, i < zs.length → weB (zs.getD i 0) = true) ∧ zs.all weB = true) ∨ (zs.all weB = false ∧ ∃ m, m < zs.length ∧ weB (zs.getD m 0) = false ∧ ∀ j, j < m → weB (zs.getD j 0) = true) := by
  induction zs with
  | nil => exact Or.inl ⟨fun i hi => by simp at hi, rfl⟩
  | cons z zs ih =>
    cases hz : weB z with
    | false => exact Or.inr ⟨by simp [hz], 0, by simp, by simpa using hz, fun j hj => by omega⟩
    | true =>
      rcases ih with ⟨h1, h2⟩ | ⟨h1, m, h2, h3, h4⟩
      · refine Or.inl ⟨fun i hi => ?_, by simp [hz] at h2 ⊢; exact h2⟩
        cases i with
        | zero => simpa using hz
        | succ i => simpa using h1 i (by simpa using hi)
      · refine Or.inr ⟨by simp only [List.all_cons, hz, Bool.true_and]; exact h1, m + 1, by simpa using h2, by simpa using h3, fun j hj => ?_⟩
        cases j with
        | zero => simpa using hz
        | succ j => simpa using h4 j (by omega)

set_option maxHeartbeats 400000 in
theorem total_good (W : World) (a : Option Addr) (len cap : Nat) (zs : List Int) (hlen : zs.length = len) (hmax : (len : Int) ≤ 65536) (hc : IsInts W .i64 a len zs) (hg : ∀ i, i < len → weB (zs.getD i 0) = true) :
    Calls Tryd.prog 24 #[.slice a len cap] W fun e w' => e = .returned (.tuple #[.int .i64 zs.sum, .int .i64 0]) ∧ W = w' := by
  have H := Lib.hid (contains_good W a len cap zs (by omega) hc hg)
  have HC := Lib.hid hc
  have HB := Lib.hid (sum_take_bd zs (fun i hi => hg i (by omega)))
  have HL := Lib.hid hlen
  clear hg hc hlen
  go_enter Tryd.func24, Tryd.ntmps24
  go_wp2_with (go_at_call 35; refine ((H).out).mono ?_; rintro e w' ⟨rfl, rfl⟩)
  go_loop [4, 14] (fun s i => ∃ k : Nat, k ≤ len ∧ i = .int .i64 k ∧ s = .int .i64 (zs.take k).sum) (fun _ i => len - (intOf i).toNat)
  case atStart => exact ⟨0, Nat.zero_le _, rfl, rfl⟩
  case round =>
    obtain ⟨k, hk, rfl, rfl⟩ := hrel
    have hb := HB.out k (by have := HL.out; omega)
    obtain ⟨b1, b2⟩ := hb
    by_cases hlt : (k : Int) < len
    · obtain ⟨b, off, rfl, _, hcc⟩ := HC.out k (by omega)
      have hs := sum_take_succ zs k (by have := HL.out; omega)
      have hb2 := HB.out (k + 1) (by have := HL.out; omega)
      rw [hs] at hb2
      obtain ⟨b3, b4⟩ := hb2
      have HS := Lib.hid hs
      clear hs
      generalize zs.getD k 0 = z at *
      generalize (zs.take k).sum = s at *
      go_wp2
      go_round
      case rel => exact ⟨k + 1, by omega, by go_num, by rw [HS.out]⟩
      case measure => simp [intOf]; omega
    · have hz : k = len := by omega
      subst hz
      have HZ := Lib.hid (show (zs.take k).sum = zs.sum by rw [List.take_of_length_le (by have := HL.out; omega)])
      go_wp2
      go_ret2
      exact ⟨ret2 HZ.out rfl, rfl⟩

set_option maxHeartbeats 400000 in
theorem total_bad (W : World) (a : Option Addr) (len cap : Nat) (zs : List Int) (hmax : (len : Int) ≤ 65536) (hc : IsInts W .i64 a len zs) (m : Nat) (hm : m < len) (hb : weB (zs.getD m 0) = false) :
    Calls Tryd.prog 24 #[.slice a len cap] W fun e w' => e = .returned (.tuple #[.int .i64 0, .int .i64 2]) ∧ W = w' := by
  have H := Lib.hid (contains_bad W a len cap zs (by omega) hc m hm hb)
  clear hc hb hm
  go_enter Tryd.func24, Tryd.ntmps24
  go_wp2_with (go_at_call 35; refine ((H).out).mono ?_; rintro e w' ⟨rfl, rfl⟩)
  go_ret2
  exact ⟨rfl, rfl⟩

set_option maxHeartbeats 400000 in
theorem total_many (W : World) (a : Option Addr) (len cap : Nat) (hmax : 65536 < (len : Int)) :
    Calls Tryd.prog 24 #[.slice a len cap] W fun e w' => e = .returned (.tuple #[.int .i64 0, .int .i64 5]) ∧ W = w' := by
  go_enter Tryd.func24, Tryd.ntmps24
  go_wp2
  go_ret2
  exact ⟨rfl, rfl⟩

theorem total_any (W : World) (a : Option Addr) (len cap : Nat) (zs : List Int) (hlen : zs.length = len) (hc : IsInts W .i64 a len zs) :
    Calls Tryd.prog 24 #[.slice a len cap] W fun e w' => e = .returned (.tuple #[.int .i64 (totV zs), .int .i64 (totE zs)]) ∧ W = w' := by
  subst hlen
  by_cases h : 65536 < zs.length
  · refine (total_many W a zs.length cap (by omega)).mono fun e w' ⟨he, hw⟩ => ⟨he.trans (ret2 ?_ ?_), hw⟩ <;> simp [totV, totE, h]
  · rcases good_or_bad zs with ⟨h1, h2⟩ | ⟨h1, m, h2, h3, _⟩
    · refine (total_good W a zs.length cap zs rfl (by omega) hc h1).mono fun e w' ⟨he, hw⟩ => ⟨he.trans (ret2 ?_ ?_), hw⟩ <;> simp [totV, totE, h, h2]
    · refine (total_bad W a zs.length cap zs (by omega) hc m h2 h3).mono fun e w' ⟨he, hw⟩ => ⟨he.trans (ret2 ?_ ?_), hw⟩ <;> simp [totV, totE, h, h1]

set_option maxHeartbeats 400000 in
theorem refTotal_many (W : World) (a : Option Addr) (len cap : Nat) (hmax : 65536 < (len : Int)) :
    Calls Tryd.prog 38 #[.slice a len cap] W fun e w' => e = .returned (.tuple #[.int .i64 0, .int .i64 5]) ∧ W = w' := by
  go_enter Tryd.func38, Tryd.ntmps38
  go_wp2
  go_ret2
  exact ⟨rfl, rfl⟩

set_option maxHeartbeats 400000 in
theorem refTotal_good (W : World) (a : Option Addr) (len cap : Nat) (zs : List Int) (hlen : zs.length = len) (hmax : (len : Int) ≤ 65536) (hc : IsInts W .i64 a len zs) (hg : ∀ i, i < len → weB (zs.getD i 0) = true) :
    Calls Tryd.prog 38 #[.slice a len cap] W fun e w' => e = .returned (.tuple #[.int .i64 zs.sum, .int .i64 0]) ∧ W = w' := by
  have HG := Lib.hid hg
  have HC := Lib.hid hc
  have HB := Lib.hid (sum_take_bd zs (fun i hi => hg i (by omega)))
  have HL := Lib.hid hlen
  clear hg hc hlen
  go_enter Tryd.func38, Tryd.ntmps38
  go_wp2
  go_loop [4, 5] (fun s i => ∃ k : Nat, k ≤ len ∧ i = .int .i64 k ∧ s = .int .i64 (zs.take k).sum) (fun _ i => len - (intOf i).toNat)
  case atStart => exact ⟨0, Nat.zero_le _, rfl, rfl⟩
  case round =>
    obtain ⟨k, hk, rfl, rfl⟩ := hrel
    have hb := HB.out k (by have := HL.out; omega)
    obtain ⟨b1, b2⟩ := hb
    by_cases hlt : (k : Int) < len
    · obtain ⟨b, off, rfl, _, hcc⟩ := HC.out k (by omega)
      have hs := sum_take_succ zs k (by have := HL.out; omega)
      have hb2 := HB.out (k + 1) (by have := HL.out; omega)
      rw [hs] at hb2
      obtain ⟨b3, b4⟩ := hb2
      have HS := Lib.hid hs
      have hw := of_decide_eq_true (HG.out k (by omega))
      clear hs
      generalize zs.getD k 0 = z at *
      generalize (zs.take k).sum = s at *
      obtain ⟨w1, w2⟩ := hw
      go_wp2_with (go_at_call 40; refine (refWeighs_yes _ _ w1 w2).mono ?_; rintro e w' ⟨rfl, rfl⟩)
      go_round
      case rel => exact ⟨k + 1, by omega, by go_num, by rw [HS.out]⟩
      case measure => simp [intOf]; omega
    · have hz : k = len := by omega
      subst hz
      have HZ := Lib.hid (show (zs.take k).sum = zs.sum by rw [List.take_of_length_le (by have := HL.out; omega)])
      go_wp2
      go_ret2
      exact ⟨ret2 HZ.out rfl, rfl⟩

set_option maxHeartbeats 400000 in
theorem refTotal_bad (W : World) (a : Option Addr) (len cap : Nat) (zs : List Int) (hlen : zs.length = len) (hmax : (len : Int) ≤ 65536) (hc : IsInts W .i64 a len zs) (m : Nat) (hm : m < len) (hb : weB (zs.getD m 0) = false) (hg : ∀ j, j < m → weB (zs.getD j 0) = true) :
    Calls Tryd.prog 38 #[.slice a len cap] W fun e w' => e = .returned (.tuple #[.int .i64 0, .int .i64 2]) ∧ W = w' := by
  have HG := Lib.hid hg
  have HC := Lib.hid hc
  have HM := Lib.hid hb
  have HB : Hid (∀ k, k ≤ m → 0 ≤ (zs.take k).sum ∧ (zs.take k).sum ≤ 65536 * k) := by
    intro k hk
    have h1 := sum_take_bd (zs.take m) (fun i hi => by
      have hi' : i < m := by simp at hi; omega
      have := hg i hi'
      simpa [List.getD_eq_getElem?_getD, List.getElem?_take, hi'] using this) k (by simp; omega)
    rwa [List.take_take, Nat.min_eq_left hk] at h1
  have HL := Lib.hid hlen
  clear hg hc hlen hb
  go_enter Tryd.func38, Tryd.ntmps38
  go_wp2
  go_loop [4, 5] (fun s i => ∃ k : Nat, k ≤ m ∧ i = .int .i64 k ∧ s = .int .i64 (zs.take k).sum) (fun _ i => len - (intOf i).toNat)
  case atStart => exact ⟨0, Nat.zero_le _, rfl, rfl⟩
  case round =>
    obtain ⟨k, hk, rfl, rfl⟩ := hrel
    have hb := HB.out k hk
    obtain ⟨b1, b2⟩ := hb
    have hlt : (k : Int) < len := by omega
    obtain ⟨b, off, rfl, _, hcc⟩ := HC.out k (by omega)
    by_cases hkm : k < m
    · have hs := sum_take_succ zs k (by have := HL.out; omega)
      have hb2 := HB.out (k + 1) (by omega)
      rw [hs] at hb2
      obtain ⟨b3, b4⟩ := hb2
      have HS := Lib.hid hs
      have hw := of_decide_eq_true (HG.out k hkm)
      clear hs
      generalize zs.getD k 0 = z at *
      generalize (zs.take k).sum = s at *
      obtain ⟨w1, w2⟩ := hw
      go_wp2_with (go_at_call 40; refine (refWeighs_yes _ _ w1 w2).mono ?_; rintro e w' ⟨rfl, rfl⟩)
      go_round
      case rel => exact ⟨k + 1, by omega, by go_num, by rw [HS.out]⟩
      case measure => simp [intOf]; omega
    · have hz : k = m := by omega
      subst hz
      have hw := of_decide_eq_false HM.out
      generalize zs.getD k 0 = z at *
      have HW := Lib.hid (show z < 1 ∨ 65536 < z by omega)
      clear hw
      go_wp2_with (go_at_call 40; refine (refWeighs_no _ _ HW.out).mono ?_; rintro e w' ⟨rfl, rfl⟩)
      go_ret2
      exact ⟨rfl, rfl⟩

theorem refTotal_any (W : World) (a : Option Addr) (len cap : Nat) (zs : List Int) (hlen : zs.length = len) (hc : IsInts W .i64 a len zs) :
    Calls Tryd.prog 38 #[.slice a len cap] W fun e w' => e = .returned (.tuple #[.int .i64 (totV zs), .int .i64 (totE zs)]) ∧ W = w' := by
  subst hlen
  by_cases h : 65536 < zs.length
  · refine (refTotal_many W a zs.length cap (by omega)).mono fun e w' ⟨he, hw⟩ => ⟨he.trans (ret2 ?_ ?_), hw⟩ <;> simp [totV, totE, h]
  · rcases good_or_bad zs with ⟨h1, h2⟩ | ⟨h1, m, h2, h3, h4⟩
    · refine (refTotal_good W a zs.length cap zs rfl (by omega) hc h1).mono fun e w' ⟨he, hw⟩ => ⟨he.trans (ret2 ?_ ?_), hw⟩ <;> simp [totV, totE, h, h2]
    · refine (refTotal_bad W a zs.length cap zs rfl (by omega) hc m h2 h3 h4).mono fun e w' ⟨he, hw⟩ => ⟨he.trans (ret2 ?_ ?_), hw⟩ <;> simp [totV, totE, h, h1]
end Go.Proofs.YtgfmgfblmfacgaaDoor
