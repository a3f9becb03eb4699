/-
  The laws' own 'lists', and the law ShareLists, walked.
-/
import Derived.Test.YtjffikiebeneaaaAwake17
namespace Go.Proofs.Ytjffikiebeneaaa
open Go.RowKit

theorem own_fz {w : World} {base : Nat} {e : TypeId} {sz n c : Nat} {A : Option Addr} {xs : List Value} (h : w.ownsRow base e sz (.slice A n c) n xs) : ∀ p, A = some p → Fz w p.block := by
  rcases h.2 with ⟨h1, _⟩ | ⟨g, cap, cur, h1, hb, hh, _⟩
  · intro p hp
    rw [hp] at h1
    cases h1
  · intro p hp
    rw [hp] at h1
    cases h1
    have hlt : g < w.heap.size := by
      rcases Nat.lt_or_ge g w.heap.size with h1 | h1
      · exact h1
      · rw [Array.getElem?_eq_none h1] at hh; cases hh
    exact ⟨hlt, fun o => frozen_of_row w g o cur e hh⟩
theorem IsPrs.far {w : World} {A : Option Addr} {n : Nat} {es : List P2} (h : IsPrs w A n es) {q : Addr} (hA : ∀ p, A = some p → p.block ≠ q.block) (u : Value) : IsPrs (w.setCell q u) A n es := by
  intro i hi
  obtain ⟨b, off, h1, h2, h3, h4⟩ := h i hi
  have hb : q.block ≠ b := fun e => hA _ h1 e.symm
  exact ⟨b, off, h1, by simpa using h2, (World.cell?_setCell_far _ _ _ _ hb).trans h3, (World.cell?_setCell_far _ _ _ _ hb).trans h4⟩
/-- The rows of the loop that wipes the program's parts: what of the first one is still to be read, and the reference's one. -/
structure Wipe (w2 wr : World) (A3 A4 : Option Addr) (m k : Nat) (ps : List P2) : Prop where
  kp : Kp w2.heap.size w2 wr
  row : ∀ i, k ≤ i → i < m → ∃ g, A3 = some ⟨g, 0, none⟩ ∧ w2.heap.size ≤ g ∧ (∀ p, A4 = some p → p.block ≠ g) ∧ Fz wr g ∧ wr.cell? ⟨g, i * 2, none⟩ = some (.int .i64 (ps.getD i p0).1) ∧ wr.cell? ⟨g, i * 2 + 1, none⟩ = some (.int .i64 (ps.getD i p0).2)
  other : IsPrs wr A4 m ps
theorem Wipe.drewN {w2 wr : World} {A3 A4 : Option Addr} {m k : Nat} {ps : List P2} (h : Wipe w2 wr A3 A4 m k ps) (n : Nat) : Wipe w2 (wr.drewN n) A3 A4 m k ps :=
  ⟨h.kp.drewN n, fun i h1 h2 => h.row i h1 h2, h.other.kp ((Kp.refl _ _).drewN n)⟩
theorem Wipe.next {w2 wr : World} {A3 A4 : Option Addr} {m k g : Nat} {ps : List P2} (h : Wipe w2 wr A3 A4 m k ps) (hk : k < m) (hg : A3 = some ⟨g, 0, none⟩) (u v : Value) :
    Wipe w2 ((wr.setCell ⟨g, k * 2, none⟩ u).setCell ⟨g, k * 2 + 1, none⟩ v) A3 A4 m (k + 1) ps := by
  obtain ⟨g', e1, hb, h4, _, _, _⟩ := h.row k (Nat.le_refl _) hk
  rw [hg] at e1
  cases e1
  refine ⟨(h.kp.setCell (p := ⟨g, k * 2, none⟩) hb _).setCell (p := ⟨g, k * 2 + 1, none⟩) hb _, fun i h1 h2 => ?_, (h.other.far (q := ⟨g, k * 2, none⟩) h4 u).far (q := ⟨g, k * 2 + 1, none⟩) h4 v⟩
  obtain ⟨g', e1, _, _, hf, c0, c1⟩ := h.row i (by omega) h2
  rw [hg] at e1
  cases e1
  have ne : ∀ a b : Nat, a ≠ b → (⟨g, a, none⟩ : Addr) ≠ ⟨g, b, none⟩ := fun a b h e => h (by injection e)
  refine ⟨g, hg, hb, h4, (hf.set _ _).set _ _, ?_, ?_⟩
  · rw [World.cell?_setCell_other _ _ _ _ (ne _ _ (by omega)), World.cell?_setCell_other _ _ _ _ (ne _ _ (by omega))]
    exact c0
  · rw [World.cell?_setCell_other _ _ _ _ (ne _ _ (by omega)), World.cell?_setCell_other _ _ _ _ (ne _ _ (by omega))]
    exact c1

set_option maxRecDepth 100000 in
set_option maxHeartbeats 4000000 in
theorem lists_any (W : World) (A : Option Addr) (len cap : Nat) (zs : List Int) (hlen : zs.length = len) (hA : A = none → cap = 0 ∧ len = 0) (hmax : len ≤ 100000) (hc : IsInts W .i64 A len zs)
    (B : Option Addr) (n2 cap2 : Nat) (es : List P2) (hes : es.length = n2) (hB : B = none → cap2 = 0 ∧ n2 = 0) (hn2 : n2 ≤ 100) (hp : IsPrs W B n2 es) :
    Calls Try.prog 20 #[.slice A len cap, .slice B n2 cap2] W fun e w' => e = .returned (.bool true) ∧ Kp W.heap.size W w' := by
  have H1 := fun w (k : Kp W.heap.size W w) => Lib.hid (cloneI_any w A len cap zs hlen hA (hc.below k) (by omega))
  have H2 := fun w (k : Kp W.heap.size W w) => Lib.hid (cloneP_any w B n2 cap2 es hes hB (hp.kp k) (by omega))
  have H3 := fun w A' cap' (h : IsInts w .i64 A' len zs) => Lib.hid (parts_any w A' len cap' zs hlen (by omega) h)
  have H4 := fun w (k : Kp W.heap.size W w) => Lib.hid (refParts_any w A len cap zs hlen (by omega) (hc.below k))
  have H5 := fun w A' cap' (h : IsPrs w A' n2 es) => Lib.hid (path_any w A' n2 cap' es hes hn2 h)
  have H6 := fun w (k : Kp W.heap.size W w) => Lib.hid (refPath_any w B n2 cap2 es hes (by omega) (hp.kp k))
  have H7 := fun w x y e => Lib.hid (same_any x y e w)
  have H8 := fun w A' c (k : Kp W.heap.size W w) (h : IsInts w .i64 A' len zs) => Lib.hid (equalI_same w A' A len c cap zs (by omega) h (hc.below k))
  have H9 := fun w A' c (k : Kp W.heap.size W w) (h : IsPrs w A' n2 es) => Lib.hid (equalL_same w A' B n2 c cap2 es (by omega) h (hp.kp k))
  have hpl : (partL zs).length ≤ 100000 := by
    unfold partL parts
    split
    · rw [List.length_map]; omega
    · simp
  obtain ⟨ps, hps⟩ : ∃ ps, ps = partL zs := ⟨_, rfl⟩
  obtain ⟨m, hm⟩ : ∃ m, m = ps.length := ⟨_, rfl⟩
  unfold PartPost at H3 H4
  rw [← hps] at H3 H4 hpl
  rw [← hm] at H3 H4 hpl
  have HM := Lib.hid hm.symm
  generalize partE zs = pe at *
  generalize path3 es = r at *
  obtain ⟨rn, rd, re⟩ := r
  unfold ShPost at H5
  dsimp only at H5 H6
  have hmI : (m : Int) ≤ 100000 := by omega
  clear hlen hA hc hes hB hp hps hm hpl
  go_enter Try.func20, Try.ntmps20
  go_wp2_with fail
  refine (H1 _ (Kp.refl _ _)).out.mono ?_
  rintro e w1 ⟨v, rfl, hown, hk1⟩
  obtain ⟨A1, c1, rfl, _, _, _, hrd, _⟩ := own_form hown
  have HO := Lib.hid (hrd.isInts.2)
  have HK := Lib.hid hk1
  clear hown hrd hk1 H1
  go_wp2_with fail
  refine (H2 _ HK.out).out.mono ?_
  rintro e w2 ⟨v, rfl, hown, hk1⟩
  obtain ⟨A2, c2, rfl, _, _, _, hrd, _⟩ := own_form hown
  have HP := Lib.hid (hrd.prs (by have := hrd.1; rw [flat_length] at this; omega))
  replace HO := Lib.hid (HO.out.below hk1)
  replace HK := Lib.hid (HK.out.trans (hk1.mono HK.out.size))
  clear hown hrd hk1 H2
  go_wp2_with fail
  refine (H3 _ _ _ HO.out).out.mono ?_
  rintro e w3 ⟨v, rfl, hown, hk1⟩
  obtain ⟨A3, c3, rfl, hc3, hc4, _, hrd, hb⟩ := own_form hown
  have F3 := own_fz hown
  have R3 := Lib.hid (hrd.prs HM.out)
  have hF3 := Lib.hid (show ∀ p, A3 = some p → p.spot = none ∧ p.off = 0 ∧ w2.heap.size ≤ p.block ∧ p.block < w3.heap.size ∧ Fz w3 p.block from fun p hp => by
    obtain ⟨g, h1, h2, h3⟩ := hb p hp
    have := F3 p hp
    subst h1
    exact ⟨rfl, rfl, h2, h3, this⟩)
  have K2 := Lib.hid hk1
  have hK3 := Lib.hid (HK.out.trans (hk1.mono HK.out.size))
  clear hown hrd hb F3 hk1 H3
  go_wp2_with fail
  refine (H4 _ hK3.out).out.mono ?_
  rintro e w4 ⟨v, rfl, hown, hk1⟩
  obtain ⟨A4, c4, rfl, _, _, _, hrd, hb⟩ := own_form hown
  have R4 := Lib.hid (hrd.prs HM.out)
  have hF4 := Lib.hid (show ∀ p, A4 = some p → w3.heap.size ≤ p.block from fun p hp => by
    obtain ⟨g, h1, h2, _⟩ := hb p hp
    subst h1
    exact h2)
  replace R3 := Lib.hid (R3.out.kp hk1)
  have K34 := Lib.hid hk1
  replace K2 := Lib.hid (K2.out.trans (hk1.mono K2.out.size))
  have HP4 := Lib.hid (HP.out.kp K2.out)
  clear hown hrd hb hk1 H4 hK3
  go_wp2_with fail
  refine (H5 _ _ _ HP4.out).out.mono ?_
  rintro e w5 ⟨rfl, hk1⟩
  replace R3 := Lib.hid (R3.out.kp hk1)
  replace R4 := Lib.hid (R4.out.kp hk1)
  replace K34 := Lib.hid (K34.out.trans (hk1.mono K34.out.size))
  replace K2 := Lib.hid (K2.out.trans (hk1.mono K2.out.size))
  have HK5 := Lib.hid (HK.out.trans (K2.out.mono HK.out.size))
  clear hk1 H5 HP4
  go_wp2_with fail
  have hsz := HK5.out.size
  refine (H6 _ (HK5.out.alloc hsz _)).out.mono ?_
  rintro e w6 ⟨rfl, hg1⟩
  have hk1 := hg1.kp
  have X := ((C2.new w5 (.int .i64 rn) (.int .i64 rd) 25)).kp hk1
  have ka : Kp w5.heap.size w5 w6 := ((Kp.refl _ _).alloc (Nat.le_refl _) (.cells #[.int .i64 rn, .int .i64 rd] 25)).trans (hk1.mono (by simp))
  replace R3 := Lib.hid (R3.out.kp ka)
  replace R4 := Lib.hid (R4.out.kp ka)
  replace K34 := Lib.hid (K34.out.trans (ka.mono K34.out.size))
  replace K2 := Lib.hid (K2.out.trans (ka.mono K2.out.size))
  generalize w5.heap.size = b5 at *
  clear hk1 ka hg1 H6 HK5 hsz
  have X0 := X.c0
  have X1 := X.c1
  have Xl := X.lt
  go_wp2_with fail
  refine (H7 _ _ _ _).out.mono ?_
  rintro e w7 ⟨rfl, hg1⟩
  have ka : Kp w6.heap.size w6 w7 := ((Kp.refl _ _).alloc (Nat.le_refl _) (.cells #[.int .i64 rn, .int .i64 rd] 67)).trans (hg1.kp.mono (by simp))
  replace R3 := Lib.hid (R3.out.kp ka)
  replace R4 := Lib.hid (R4.out.kp ka)
  replace K34 := Lib.hid (K34.out.trans (ka.mono K34.out.size))
  replace K2 := Lib.hid (K2.out.trans (ka.mono K2.out.size))
  clear ka hg1 H7 X X0 X1 Xl
  have HWi := Lib.hid (show Wipe w2 w7 A3 A4 m 0 ps from ⟨K2.out, fun i _ hi => by
    obtain ⟨b, off, h1, h2, h3, h4⟩ := R3.out i hi
    obtain ⟨_, e2, e3, e4, e5⟩ := hF3.out _ h1
    dsimp only at e2 e3 e4
    subst e2
    refine ⟨b, h1, e3, fun p hp => ?_, ⟨Nat.lt_of_lt_of_le e4 K34.out.size, fun o => (K34.out.frozen (p := ⟨b, o, none⟩) e4).trans (e5.2 o)⟩, by simpa using h3, by simpa using h4⟩
    have := hF4.out p hp
    omega, R4.out⟩)
  clear R3 R4 hF3 hF4 K2 K34
  go_wp2_with fail
  go_loopw [60] (fun i wr => ∃ k : Nat, k ≤ m ∧ i = .int .i64 k ∧ Wipe w2 wr A3 A4 m k ps) (fun i _ => m - (intOf i).toNat)
  case atStart => exact ⟨0, Nat.zero_le _, rfl, HWi.out⟩
  case round =>
    clear HWi
    obtain ⟨k, hk, rfl, hw⟩ := hrel
    by_cases hlt : k < m
    · obtain ⟨g, rfl, _, _, hf, c0, c1⟩ := hw.row k (Nat.le_refl _) hlt
      obtain ⟨b4, o4, rfl, hb4, d0, d1⟩ := hw.other k hlt
      have hN := fun n u v => Lib.hid ((hw.drewN n).next hlt rfl u v)
      have hf2 := hf.2
      have hgl := hf.1
      have HWx := Lib.hid hw
      generalize (ps.getD k p0).1 = x at *
      generalize (ps.getD k p0).2 = y at *
      have hki : (k : Int) < m := by omega
      clear hw hf
      go_wp2_with fail
      go_quiet (fail)
      go_wp2_with fail
      go_roundw
      case rel => exact ⟨k + 1, by omega, by go_num, (hN _ _ _).out⟩
      case measure => simp [intOf]; omega
    · have hke : k = m := by omega
      have hno : ¬ (k : Int) < m := by omega
      have hkf := hw.kp
      have HKF := Lib.hid (HK.out.trans (hkf.mono HK.out.size))
      have HOF := Lib.hid (HO.out.below hkf)
      have HPF := Lib.hid (HP.out.kp hkf)
      clear hw hkf HK HO HP hke hlt hk
      go_wp2_with fail
      refine (H8 _ _ _ HKF.out HOF.out).out.mono ?_
      rintro e w8 ⟨rfl, n, rfl⟩
      go_wp2_with fail
      refine (H9 _ _ _ (HKF.out.drewN n) (HPF.out.kp ((Kp.refl _ _).drewN n))).out.mono ?_
      rintro e w9 ⟨rfl, n', rfl⟩
      go_wp2_with fail
      go_ret
      exact ⟨rfl, by first | exact HKF.out.drewN _ | exact (HKF.out.drewN n).drewN n'⟩

set_option maxRecDepth 100000 in
set_option maxHeartbeats 1000000 in
theorem law5 {W : World} (A : Option Addr) (len cap : Nat) (zs : List Int) (hl : zs.length = len) (hc : len ≤ cap) (hm : (cap : Int) ≤ 9223372036854775807) (hn : A = none → cap = 0) (hi : IsInts W .i64 A len zs) (_ : ∀ n ∈ zs, (Lit.int .i64 n).wf = true)
    (B : Option Addr) (cap2 : Nat) (es : List P2) (hc2 : es.length ≤ cap2) (hm2 : (cap2 : Int) ≤ 9223372036854775807) (hn2 : B = none → cap2 = 0) (hi2 : IsPrs W B es.length es) :
    Calls Try.prog 5 #[.slice A len cap, .slice B es.length cap2] W fun e w' => e = .returned (.bool true) ∧ Kp W.heap.size W w' := by
  have HA := fun W => Lib.hid (awake_any W)
  have HL := Lib.hid (show len ≤ 100000 → es.length ≤ 100 → Calls Try.prog 20 #[.slice A len cap, .slice B es.length cap2] W fun e w' => e = .returned (.bool true) ∧ Kp W.heap.size W w' from fun h1 h2 => lists_any W A len cap zs hl (fun h => ⟨hn h, by have := hn h; omega⟩) h1 hi B es.length cap2 es rfl (fun h => ⟨hn2 h, by have := hn2 h; omega⟩) h2 hi2)
  have hw : (len : Int) ≤ 9223372036854775807 := by omega
  have hw2 : (es.length : Int) ≤ 9223372036854775807 := by omega
  generalize es.length = n2 at *
  clear hl hn hi hn2 hi2 hc hc2 hm hm2
  by_cases h1 : (60 < len ∧ len ≤ 65536) ∨ 65600 ≤ len ∨ (20 < n2 ∧ len ≤ 60) ∨ (20 < n2 ∧ 65536 < len ∧ len < 65600)
  · clear HL
    rcases h1 with ⟨h1, h2⟩ | h1 | ⟨h1, h2⟩ | ⟨h1, h2, h3⟩
    · have g1 : (60 : Int) < len := by omega
      have g2 : (len : Int) ≤ 65536 := by omega
      clear h1 h2
      go_enter Try.func5, Try.ntmps5
      go_wp2_with fail
      (with_reducible refine (HA _).out.mono ?_)
      rintro e w1 ⟨rfl, hk⟩
      go_wp2_with fail
      go_ret
      exact ⟨rfl, hk⟩
    · have g1 : (60 : Int) < len := by omega
      have g2 : decide ((len : Int) ≤ 65536) = false := decide_eq_false (by omega)
      have g3 : (65600 : Int) ≤ len := by omega
      clear h1
      go_enter Try.func5, Try.ntmps5
      go_wp2_with fail
      (with_reducible refine (HA _).out.mono ?_)
      rintro e w1 ⟨rfl, hk⟩
      go_wp2_with fail
      go_ret
      exact ⟨rfl, hk⟩
    · have g3 : (20 : Int) < n2 := by omega
      have g1 : decide ((60 : Int) < len) = false := decide_eq_false (by omega)
      have g2 : decide ((65600 : Int) ≤ len) = false := decide_eq_false (by omega)
      clear h1 h2
      go_enter Try.func5, Try.ntmps5
      go_wp2_with fail
      (with_reducible refine (HA _).out.mono ?_)
      rintro e w1 ⟨rfl, hk⟩
      go_wp2_with fail
      go_ret
      exact ⟨rfl, hk⟩
    · have g3 : (20 : Int) < n2 := by omega
      have g1 : (60 : Int) < len := by omega
      have g2 : decide ((len : Int) ≤ 65536) = false := decide_eq_false (by omega)
      have g4 : decide ((65600 : Int) ≤ len) = false := decide_eq_false (by omega)
      clear h1 h2 h3
      go_enter Try.func5, Try.ntmps5
      go_wp2_with fail
      (with_reducible refine (HA _).out.mono ?_)
      rintro e w1 ⟨rfl, hk⟩
      go_wp2_with fail
      go_ret
      exact ⟨rfl, hk⟩
  · have g4 : decide ((20 : Int) < n2) = false := decide_eq_false (by omega)
    have HL2 := Lib.hid (HL.out (by omega) (by omega))
    clear HL
    rcases Nat.lt_or_ge 60 len with h2 | h2
    · have g1 : (60 : Int) < len := by omega
      have g2 : decide ((len : Int) ≤ 65536) = false := decide_eq_false (by omega)
      have g3 : decide ((65600 : Int) ≤ len) = false := decide_eq_false (by omega)
      clear h1 h2
      go_enter Try.func5, Try.ntmps5
      go_wp2_with fail
      (with_reducible refine HL2.out.mono ?_)
      rintro e w1 ⟨rfl, hk⟩
      have HK := Lib.hid hk
      clear hk
      go_wp2_with fail
      (with_reducible refine (HA _).out.mono ?_)
      rintro e w2 ⟨rfl, hk⟩
      have HK2 := Lib.hid (HK.out.trans (hk.mono HK.out.size))
      clear hk
      go_wp2_with fail
      go_ret
      exact ⟨rfl, HK2.out⟩
    · have g1 : decide ((60 : Int) < len) = false := decide_eq_false (by omega)
      have g3 : decide ((65600 : Int) ≤ len) = false := decide_eq_false (by omega)
      clear h1 h2
      go_enter Try.func5, Try.ntmps5
      go_wp2_with fail
      (with_reducible refine HL2.out.mono ?_)
      rintro e w1 ⟨rfl, hk⟩
      have HK := Lib.hid hk
      clear hk
      go_wp2_with fail
      (with_reducible refine (HA _).out.mono ?_)
      rintro e w2 ⟨rfl, hk⟩
      have HK2 := Lib.hid (HK.out.trans (hk.mono HK.out.size))
      clear hk
      go_wp2_with fail
      go_ret
      exact ⟨rfl, HK2.out⟩
end Go.Proofs.Ytjffikiebeneaaa
