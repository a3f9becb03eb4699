/-
  The contracts of slices.Clone, slices.Equal (at lists that are the same), and of 'total'; the walk of the law WeightTotal.
-/
import Derived.Test.YtgfmgfblmfacgaaDoorTotal
import Derived.Test.YtgfmgfblmfacgaaDoorAwake
import Derived.Test.YtgfmgfblmfacgaaDoorRowz
import Derived.OpenShut
namespace Go.Proofs.YtgfmgfblmfacgaaDoor
open Go.RowKit

theorem int3_info : (Tryd.prog.info? 3).map (fun i => (i.zero, i.size, i.bytes)) = some (some (.int .i64 0), 1, 8) := by kernel_rfl
theorem oneCells {k : IntKind} (l : List Int) : ∀ u ∈ l.map (Value.int k), u.oneCell' = true := by
  intro u hu
  obtain ⟨z, _, rfl⟩ := List.mem_map.1 hu
  rfl

def CloneP (W : World) (len : Nat) (xs : List Value) (e : Ending) (w' : World) : Prop :=
  ∃ v', e = .returned v' ∧ w'.ownsRow W.heap.size 3 1 v' len xs ∧ Kp W.heap.size W w'

set_option maxRecDepth 100000 in
set_option maxHeartbeats 400000 in
theorem clone_any (W : World) (A : Option Addr) (len cap : Nat) (zs : List Int) (hr : Rd W 1 A len (zs.map (Value.int .i64))) (hbig : len * 8 ≤ 140737488355328) :
    Calls Tryd.prog 37 #[.slice A len cap] W (CloneP W len (zs.map (Value.int .i64))) := by
  have q42 : ∀ (w : World) (a : Option Addr) (n c n' c' : Nat), (binOp .eql 42 (.slice a n c) (.slice none n' c')).run Tryd.prog w = .ok (.bool a.isNone) w := fun w a n c n' c' => Lib.run_eql_slice_nil w _ _ a n c n' c' Tryd.underlying42
  obtain ⟨i0, hi, hz0, hz1, hz2⟩ := info_parts int3_info
  have HR := Lib.hid hr
  clear hr
  rcases A with _ | ad
  · have h0 : len = 0 := by
      rcases Nat.eq_zero_or_pos len with h | h
      · exact h
      · obtain ⟨b, off, u, h1, _⟩ := HR.out.at1 h
        cases h1
    subst h0
    have hx : zs.map (Value.int .i64) = [] := List.eq_nil_of_length_eq_zero (by have := HR.out.1; simpa using this)
    have HX := Lib.hid hx
    clear hx
    go_enter Tryd.func37, Tryd.ntmps37
    go_wp2
    go_ret
    exact ⟨_, rfl, by rw [HX.out]; exact World.ownsRow_nil _ _ _ _, Kp.refl _ _⟩
  · go_enter Tryd.func37, Tryd.ntmps37
    go_wp2_with (at_builtin; refine wpList_append_rd _ rfl _ _ 42 rfl W.heap.size 3 i0 (.int .i64 0) 1 8 Tryd.underlying42 hi hz0 hz1 hz2 rfl (by decide) _ _ _ rfl (World.ownsRow_made W #[] 0 (Nat.le_refl _) (Nat.zero_le _) rfl) (some ad) len cap (zs.map (Value.int .i64)) rfl ?qc2 (oneCells zs) ?qc4 ?qc5 ?qc6 ?_)
    case qc2 => exact HR.out.kp ((Kp.refl _ _).alloc (Nat.le_refl _) _)
    case qc4 => unfold maxLen; omega
    case qc5 => omega
    case qc6 => simp
    intro v' w1 hown hgrow
    go_wp2
    go_ret
    refine ⟨v', rfl, by simpa using hown, ?_⟩
    exact ((Kp.refl _ W).alloc (Nat.le_refl _) _).grown hgrow (by simp) (by intro k hk; simp [Value.ownBlock] at hk; omega)

set_option maxRecDepth 100000 in
set_option maxHeartbeats 400000 in
theorem equal_same (W : World) (A B : Option Addr) (len c d : Nat) (zs : List Int) (hmax : (len : Int) ≤ 9223372036854775807) (ha : IsInts W .i64 A len zs) (hb : IsInts W .i64 B len zs) :
    Calls Tryd.prog 39 #[.slice A len c, .slice B len d] W fun e w' => e = .returned (.bool true) ∧ ∃ n, w' = W.drewN n := by
  have HA := Lib.hid ha
  have HB := Lib.hid hb
  clear ha hb
  go_enter Tryd.func39, Tryd.ntmps39
  go_wp2
  go_loopw [13] (fun i wr => ∃ k : Nat, k ≤ len ∧ i = .int .i64 k ∧ ∃ n, wr = W.drewN n) (fun i _ => len - (intOf i).toNat)
  case atStart => exact ⟨0, Nat.zero_le _, rfl, 0, rfl⟩
  case round =>
    obtain ⟨k, hk, rfl, n, rfl⟩ := hrel
    by_cases hlt : (k : Int) < len
    · obtain ⟨b, off, rfl, _, hcc⟩ := HA.out k (by omega)
      obtain ⟨b', off', rfl, _, hcc'⟩ := HB.out k (by omega)
      generalize zs.getD k 0 = z at *
      go_wp2
      go_quiet (fail)
      go_wp2
      go_roundw
      case rel => exact ⟨k + 1, by omega, by go_num, _, rfl⟩
      case measure => simp [intOf]; omega
    · go_wp2
      go_ret
      exact ⟨rfl, _, rfl⟩

theorem totE_bd (zs : List Int) : 0 ≤ totE zs ∧ totE zs ≤ 5 := by unfold totE; repeat' split <;> omega

set_option maxRecDepth 100000 in
set_option maxHeartbeats 400000 in
theorem totalFn_any (W : World) (A : Option Addr) (len cap : Nat) (zs : List Int) (hlen : zs.length = len) (hc : IsInts W .i64 A len zs) (hbig : len * 8 ≤ 140737488355328) :
    Calls Tryd.prog 25 #[.slice A len cap] W fun e w' => e = .returned (.bool true) ∧ Kp W.heap.size W w' := by
  have HC := Lib.hid hc
  have HL := Lib.hid hlen
  have hE := totE_bd zs
  obtain ⟨e1, e2⟩ := hE
  clear hc hlen
  go_enter Tryd.func25, Tryd.ntmps25
  go_wp2_with fail
  refine (clone_any W A len cap zs (Rd.ints HL.out HC.out) hbig).mono ?_
  rintro e w1 ⟨v, rfl, hown, hk1⟩
  obtain ⟨B, c, rfl, _, _, _, hrd, _⟩ := own_form hown
  have HB := Lib.hid hrd.isInts.2
  have HC1 := Lib.hid (HC.out.below hk1)
  have HK := Lib.hid hk1
  clear hown hrd hk1
  go_wp2_with fail
  refine (total_any w1 B len c zs HL.out HB.out).mono ?_
  rintro e w' ⟨rfl, rfl⟩
  go_wp2_with fail
  refine (refTotal_any w1 A len cap zs HL.out HC1.out).mono ?_
  rintro e w' ⟨rfl, rfl⟩
  go_wp2_with fail
  refine (equal_same w1 B A len c cap zs (by omega) HB.out HC1.out).mono ?_
  rintro e w' ⟨rfl, n, rfl⟩
  go_wp2_with fail
  go_ret
  exact ⟨rfl, HK.out.drewN _⟩

set_option maxRecDepth 100000 in
set_option maxHeartbeats 400000 in
theorem weightTotal_walk {W : World} (a : Option Addr) (len cap : Nat) (zs : List Int) (hlen : zs.length = len) (_ : len ≤ cap) (_ : (cap : Int) ≤ 9223372036854775807)
    (_ : a = none → cap = 0) (hcell : IsInts W .i64 a len zs) (_ : ∀ n ∈ zs, (Lit.int .i64 n).wf = true) (hT : TabW W) :
    Calls Tryd.prog 11 #[.slice a len cap] W fun e w' => e = .returned (.bool true) ∧ Kp W.heap.size W w' := by
  have hpos := hT.pos
  have HL := Lib.hid hlen
  have HC := Lib.hid hcell
  clear hlen hcell
  by_cases h1 : (len : Int) ≤ 100
  · have g1 : decide ((100 : Int) < len) = false := decide_eq_false (by omega)
    have g2 : decide ((65600 : Int) ≤ len) = false := decide_eq_false (by omega)
    go_enter Tryd.func11, Tryd.ntmps11
    go_wp2_with fail
    refine (totalFn_any W a len cap zs HL.out HC.out (by omega)).mono ?_
    rintro e w1 ⟨rfl, hk⟩
    go_wp2_with fail
    refine (awake_any _ (hT.kp hk hpos)).mono ?_
    rintro e w2 ⟨rfl, hk2⟩
    go_wp2_with fail
    go_ret
    exact ⟨rfl, hk.trans (hk2.mono hk.size)⟩
  by_cases h2 : (len : Int) ≤ 65536
  · have g1 : decide ((100 : Int) < len) = true := decide_eq_true (by omega)
    go_enter Tryd.func11, Tryd.ntmps11
    go_wp2_with fail
    refine (awake_any _ hT).mono ?_
    rintro e w2 ⟨rfl, hk2⟩
    go_wp2_with fail
    go_ret
    exact ⟨rfl, hk2⟩
  have g1 : decide ((100 : Int) < len) = true := decide_eq_true (by omega)
  have g3 : decide ((len : Int) ≤ 65536) = false := decide_eq_false (by omega)
  by_cases h3 : (len : Int) < 65600
  · have g2 : decide ((65600 : Int) ≤ len) = false := decide_eq_false (by omega)
    go_enter Tryd.func11, Tryd.ntmps11
    go_wp2_with fail
    refine (totalFn_any W a len cap zs HL.out HC.out (by omega)).mono ?_
    rintro e w1 ⟨rfl, hk⟩
    go_wp2_with fail
    refine (awake_any _ (hT.kp hk hpos)).mono ?_
    rintro e w2 ⟨rfl, hk2⟩
    go_wp2_with fail
    go_ret
    exact ⟨rfl, hk.trans (hk2.mono hk.size)⟩
  · have g2 : decide ((65600 : Int) ≤ len) = true := decide_eq_true (by omega)
    go_enter Tryd.func11, Tryd.ntmps11
    go_wp2_with fail
    refine (awake_any _ hT).mono ?_
    rintro e w2 ⟨rfl, hk2⟩
    go_wp2_with fail
    go_ret
    exact ⟨rfl, hk2⟩
end Go.Proofs.YtgfmgfblmfacgaaDoor
