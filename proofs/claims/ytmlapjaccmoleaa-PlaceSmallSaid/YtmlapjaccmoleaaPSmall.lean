/-
  The law PlaceSmall, walked.
-/
import Derived.Test.YtmlapjaccmoleaaPFloor
import Derived.Test.YtmlapjaccmoleaaTellsP
import Derived.Test.YtmlapjaccmoleaaAwakeM
import Derived.Test.YtmlapjaccmoleaaCells4
namespace Go.Proofs.Ytmlapjaccmoleaa
open Go.RowKit

def numP : List Int := [0, 1, 2, 3, 99, 100, 101, 9223372036854775808, 18446744073709551514, 18446744073709551613, 18446744073709551614, 18446744073709551615]
def rss : List Int := [0, 2, 4, 5]
def kss : List Int := [-9223372036854775808, -1, 0, 1, 65535, 65536, 65537, 4294967296, 4294967301, 9223372036854775807]
theorem numP_bd : U64s numP := u64s_of (by decide)
theorem rss_bd (j : Nat) : 0 ≤ rss.getD j 0 ∧ rss.getD j 0 ≤ 5 := by
  rcases Nat.lt_or_ge j 4 with h | h
  · match j, h with
    | 0, _ => decide
    | 1, _ => decide
    | 2, _ => decide
    | 3, _ => decide
  · rw [List.getD_eq_getElem?_getD, List.getElem?_eq_none (by simpa [rss] using h)]
    decide
theorem kss_bd (j : Nat) : -9223372036854775808 ≤ kss.getD j 0 ∧ kss.getD j 0 ≤ 9223372036854775807 := by
  rcases Nat.lt_or_ge j 10 with h | h
  · match j, h with
    | 0, _ => decide
    | 1, _ => decide
    | 2, _ => decide
    | 3, _ => decide
    | 4, _ => decide
    | 5, _ => decide
    | 6, _ => decide
    | 7, _ => decide
    | 8, _ => decide
    | 9, _ => decide
  · rw [List.getD_eq_getElem?_getD, List.getElem?_eq_none (by simpa [kss] using h)]
    decide
def P1 (W w : World) : Prop := IsInts w .u64 (some ⟨W.heap.size, 0, none⟩) 12 numP ∧ Kp W.heap.size W w
def P2 (W w : World) (p1 : Nat) : Prop := P1 W w ∧ IsInts w .u32 (some ⟨p1, 0, none⟩) 4 rss
def P5 (W w : World) (p1 px : Nat) (v r m : Int) : Prop := P2 W w p1 ∧ C3 w px (.int .u64 v) (.int .u32 r) (.int .u32 m)
def K1 (W w : World) (p1 : Nat) : Prop := IsInts w .i64 (some ⟨p1, 0, none⟩) 10 kss ∧ Kp W.heap.size W w
theorem P1.kp {W w w' : World} (h : P1 W w) (k : Kp w.heap.size w w') : P1 W w' := ⟨h.1.below k, h.2.trans (k.mono h.2.size)⟩
theorem P2.kp {W w w' : World} {p1 : Nat} (h : P2 W w p1) (k : Kp w.heap.size w w') : P2 W w' p1 := ⟨h.1.kp k, h.2.below k⟩
theorem P5.kp {W w w' : World} {p1 px : Nat} {v r m : Int} (h : P5 W w p1 px v r m) (k : Kp w.heap.size w w') : P5 W w' p1 px v r m := ⟨h.1.kp k, h.2.kp k⟩
theorem K1.kp {W w w' : World} {p1 : Nat} (h : K1 W w p1) (k : Kp w.heap.size w w') : K1 W w' p1 := ⟨h.1.below k, h.2.trans (k.mono h.2.size)⟩
theorem kp_allocP (w : World) (o : Obj) : Kp w.heap.size w (w.alloc o) := (Kp.refl _ _).alloc (Nat.le_refl _) o
theorem ents_newP (w : World) (es : List E3) (c : Array Value) (hc : c.toList = flat es) (t : TypeId) : IsEnts (w.alloc (.cells c t)) (some ⟨w.heap.size, 0, none⟩) es.length es := by
  refine Rd.ents rfl ⟨flat_length es, fun j u hu => ⟨w.heap.size, 0, rfl, by simp, ?_⟩⟩
  rw [cell_of_row _ w.heap.size (0 + j) c t (0, 0) (heap_alloc_new w _), Nat.zero_add, ← Array.getElem?_toList, hc]
  exact hu
/-- 'lowest' at a list that was just made. -/
theorem lowest_lit {f : Int} (w : World) (es : List E3) (c : Array Value) (hc : c.toList = flat es) (he : es.length ≤ 60) (hE : EBs es) :
    Calls Try.prog 33 #[.int .u64 f, .slice (some ⟨w.heap.size, 0, none⟩) es.length es.length] (w.alloc (.cells c 25)) fun e w' => e = .returned (.bool true) ∧ Kp w.heap.size w w' :=
  (lowest_any _ _ es.length es.length es rfl he (fun h => by cases h) (ents_newP w es c hc 25) hE).mono fun e w' ⟨he, hk⟩ => ⟨he, (kp_allocP w _).trans (hk.mono (by simp))⟩
theorem lowest_2 {f v r m v' r' m' : Int} (w : World) (h : EB v r m) (h' : EB v' r' m') :
    Calls Try.prog 33 #[.int .u64 f, .slice (some ⟨w.heap.size, 0, none⟩) 2 2] (w.alloc (.cells #[.int .u64 v, .int .u32 r, .int .u32 m, .int .u64 v', .int .u32 r', .int .u32 m'] 25)) fun e w' => e = .returned (.bool true) ∧ Kp w.heap.size w w' :=
  lowest_lit w [(v, r, m), (v', r', m')] _ rfl (by simp) (fun e he => by
    simp only [List.mem_cons, List.not_mem_nil, or_false] at he
    rcases he with rfl | rfl
    · exact h
    · exact h')
theorem lowest_1 {f v r m : Int} (w : World) (h : EB v r m) :
    Calls Try.prog 33 #[.int .u64 f, .slice (some ⟨w.heap.size, 0, none⟩) 1 1] (w.alloc (.cells #[.int .u64 v, .int .u32 r, .int .u32 m] 25)) fun e w' => e = .returned (.bool true) ∧ Kp w.heap.size w w' :=
  lowest_lit w [(v, r, m)] _ rfl (by simp) (fun e he => by
    simp only [List.mem_cons, List.not_mem_nil, or_false] at he
    rcases he with rfl
    exact h)
theorem lowest_0 {f : Int} (w : World) : Calls Try.prog 33 #[.int .u64 f, .slice none 0 0] w fun e w' => e = .returned (.bool true) ∧ Kp w.heap.size w w' :=
  lowest_any w none 0 0 [] rfl (by omega) (fun _ => ⟨rfl, rfl⟩) (fun i hi => absurd hi (Nat.not_lt_zero i)) (fun e he => by cases he)
theorem wrap32_bd (k : Int) : 0 ≤ IntKind.u32.wrap k ∧ IntKind.u32.wrap k ≤ 4294967295 := by
  rw [IntKind.wrap_u32]
  omega

set_option maxRecDepth 100000 in
set_option maxHeartbeats 8000000 in
theorem smallP_any (W : World) : Calls Try.prog 11 #[] W fun e w' => e = .returned (.bool true) ∧ Kp W.heap.size W w' := by
  have HA := fun W => Lib.hid (awakeP_any W)
  go_enter Try.func11, Try.ntmps11
  go_wp2_with fail
  have h1 : Hid (P1 W (W.alloc (.cells #[.int .u64 0, .int .u64 1, .int .u64 2, .int .u64 3, .int .u64 99, .int .u64 100, .int .u64 101, .int .u64 9223372036854775808, .int .u64 18446744073709551514, .int .u64 18446744073709551613, .int .u64 18446744073709551614, .int .u64 18446744073709551615] 22))) := Lib.hid ⟨isInts_new W numP 22, kp_allocP W _⟩
  generalize W.alloc _ = w0 at *
  go_loopw [16] (fun i wr => ∃ k : Nat, k ≤ 12 ∧ i = .int .i64 k ∧ P1 W wr) (fun i _ => 12 - (intOf i).toNat)
  case atStart => exact ⟨0, by omega, rfl, h1.out⟩
  case round =>
    clear h1
    obtain ⟨k1, hk1, rfl, hs⟩ := hrel
    by_cases hl1 : k1 < 12
    · obtain ⟨b, off, e, _, c0⟩ := hs.1 k1 hl1
      cases e
      rw [Nat.zero_add] at c0
      have hv := numP_bd k1
      generalize numP.getD k1 0 = v at *
      have v0 := hv.1
      have v1 := hv.2
      have HS1 := Lib.hid hs
      have hki1 : (k1 : Int) < 12 := by omega
      clear hs hv
      go_wp2_with fail
      have h2 : Hid (P2 W (wr.alloc (.cells #[.int .u32 0, .int .u32 2, .int .u32 4, .int .u32 5] 23)) wr.heap.size) := Lib.hid ⟨HS1.out.kp (kp_allocP wr _), isInts_new wr rss 23⟩
      clear c0 HS1
      generalize wr.alloc _ = w1 at *
      generalize wr.heap.size = p1 at *
      go_loopw [22] (fun i wr => ∃ k : Nat, k ≤ 4 ∧ i = .int .i64 k ∧ P2 W wr p1) (fun i _ => 4 - (intOf i).toNat)
      case atStart => exact ⟨0, by omega, rfl, h2.out⟩
      case round =>
        clear h2
        obtain ⟨k2, hk2, rfl, hs⟩ := hrel
        by_cases hl2 : k2 < 4
        · obtain ⟨b, off, e, _, c0⟩ := hs.2 k2 hl2
          cases e
          rw [Nat.zero_add] at c0
          have hv := rss_bd k2
          generalize rss.getD k2 0 = r at *
          have r0 := hv.1
          have r1 := hv.2
          have HS2 := Lib.hid hs
          have hki2 : (k2 : Int) < 4 := by omega
          have hx : EB v r 5 := ⟨v0, v1, r0, by omega, by omega, by omega⟩
          have HX := Lib.hid hx
          clear hs hv hx
          go_wp2_with fail
          have h5 : Hid (P5 W (wr.alloc (.cells #[.int .u64 v, .int .u32 r, .int .u32 5] 25)) p1 wr.heap.size v r 5) := Lib.hid ⟨HS2.out.kp (kp_allocP wr _), C3.new wr _ _ _ 25⟩
          clear c0 HS2
          generalize wr.alloc _ = w3 at *
          generalize wr.heap.size = px at *
          go_loopw [31] (fun i wr => ∃ k : Nat, k ≤ 12 ∧ i = .int .i64 k ∧ P5 W wr p1 px v r 5) (fun i _ => 12 - (intOf i).toNat)
          case atStart => exact ⟨0, by omega, rfl, h5.out⟩
          case round =>
            clear h5
            obtain ⟨k4, hk4, rfl, hs⟩ := hrel
            by_cases hl4 : k4 < 12
            · obtain ⟨b, off, e, _, c0⟩ := hs.1.1.1 k4 hl4
              cases e
              rw [Nat.zero_add] at c0
              have hv := numP_bd k4
              generalize numP.getD k4 0 = a at *
              have a0 := hv.1
              have a1 := hv.2
              have HS4 := Lib.hid hs
              have hki4 : (k4 : Int) < 12 := by omega
              have hy : EB a 0 1 := ⟨a0, a1, by omega, by omega, by omega, by omega⟩
              have hy2 : EB a 0 65536 := ⟨a0, a1, by omega, by omega, by omega, by omega⟩
              have HY := Lib.hid hy
              have HY2 := Lib.hid hy2
              clear hs hv hy hy2
              go_wp2_with fail
              clear c0
              go_loopw [37] (fun i wr => ∃ k : Nat, k ≤ 12 ∧ i = .int .i64 k ∧ P5 W wr p1 px v r 5) (fun i _ => 12 - (intOf i).toNat)
              case atStart => exact ⟨0, by omega, rfl, HS4.out⟩
              case round =>
                clear HS4
                obtain ⟨k5, hk5, rfl, hs⟩ := hrel
                by_cases hl5 : k5 < 12
                · obtain ⟨b', off', e, _, c0⟩ := hs.1.1.1 k5 hl5
                  cases e
                  rw [Nat.zero_add] at c0
                  have hv := numP_bd k5
                  generalize numP.getD k5 0 = b at *
                  have b0 := hv.1
                  have b1 := hv.2
                  have HS5 := Lib.hid hs
                  have X := hs.2
                  have hki5 : (k5 : Int) < 12 := by omega
                  have a7 : 0 ≤ a % 7 := Int.emod_nonneg _ (by omega)
                  have a8 : a % 7 < 7 := Int.emod_lt_of_pos _ (by omega)
                  have HT := fun W m => Lib.hid (tellsP_any (m := m) W HX.out a0 a1 b0 b1)
                  have X0 := X.c0
                  have X1 := X.c1
                  have X2 := X.c2
                  have Xl := X.lt
                  clear hs hv X
                  go_wp2_with fail
                  refine (HT _ _).out.mono ?_
                  rintro e wa ⟨rfl, hk⟩
                  have HS6 := Lib.hid (HS5.out.kp hk.kp)
                  clear hk HS5 X0 X1 X2 Xl c0
                  go_wp2_with fail
                  go_roundw
                  case rel => exact ⟨k5 + 1, by omega, by go_num, HS6.out⟩
                  case measure => simp [intOf]; omega
                · obtain rfl : k5 = 12 := by omega
                  have HS := Lib.hid hs
                  have X := hs.2
                  have X0 := X.c0
                  have X1 := X.c1
                  have X2 := X.c2
                  have Xl := X.lt
                  have HL1 := fun w => Lib.hid (lowest_2 (f := a) w HX.out HY.out)
                  have HL2 := fun w => Lib.hid (lowest_2 (f := v) w HY2.out HX.out)
                  clear hs X
                  go_wp2_with fail
                  refine (HL1 _).out.mono ?_
                  rintro e wa ⟨rfl, hk⟩
                  have HS6 := Lib.hid (HS.out.kp hk)
                  clear hk HS X0 X1 X2 Xl HL1
                  have X := HS6.out.2
                  have X0 := X.c0
                  have X1 := X.c1
                  have X2 := X.c2
                  have Xl := X.lt
                  clear X
                  go_wp2_with fail
                  refine (HL2 _).out.mono ?_
                  rintro e wb ⟨rfl, hk⟩
                  have HS7 := Lib.hid (HS6.out.kp hk)
                  clear hk HS6 X0 X1 X2 Xl HL2
                  go_wp2_with fail
                  go_roundw
                  case rel => exact ⟨k4 + 1, by omega, by go_num, HS7.out⟩
                  case measure => simp [intOf]; omega
            · obtain rfl : k4 = 12 := by omega
              have HS := Lib.hid hs
              clear hs
              go_wp2_with fail
              go_roundw
              case rel => exact ⟨k2 + 1, by omega, by go_num, HS.out.1⟩
              case measure => simp [intOf]; omega
        · obtain rfl : k2 = 4 := by omega
          have HS := Lib.hid hs
          clear hs
          go_wp2_with fail
          go_roundw
          case rel => exact ⟨k1 + 1, by omega, by go_num, HS.out.1⟩
          case measure => simp [intOf]; omega
    · obtain rfl : k1 = 12 := by omega
      have HK := Lib.hid hs.2
      clear hs
      have hsz := HK.out.size
      go_wp2_with fail
      have h2 : Hid (K1 W (wr.alloc (.cells #[.int .i64 (-9223372036854775808), .int .i64 (-1), .int .i64 0, .int .i64 1, .int .i64 65535, .int .i64 65536, .int .i64 65537, .int .i64 4294967296, .int .i64 4294967301, .int .i64 9223372036854775807] 3)) wr.heap.size) := Lib.hid ⟨isInts_new wr kss 3, HK.out.alloc hsz _⟩
      clear HK hsz
      generalize wr.alloc _ = w1 at *
      generalize wr.heap.size = p1 at *
      go_loopw [71] (fun i wr => ∃ k : Nat, k ≤ 10 ∧ i = .int .i64 k ∧ K1 W wr p1) (fun i _ => 10 - (intOf i).toNat)
      case atStart => exact ⟨0, by omega, rfl, h2.out⟩
      case round =>
        clear h2
        obtain ⟨k2, hk2, rfl, hs⟩ := hrel
        by_cases hl2 : k2 < 10
        · obtain ⟨b, off, e, _, c0⟩ := hs.1 k2 hl2
          cases e
          rw [Nat.zero_add] at c0
          have hv := kss_bd k2
          generalize kss.getD k2 0 = m at *
          have hki2 : (k2 : Int) < 10 := by omega
          have hw := wrap32_bd m
          have HT := fun W q => Lib.hid (tellsP_any (v := 3) (r := 0) (w := IntKind.u32.wrap m) (a := 5) (b := 1) (m := q) W ⟨by omega, by omega, by omega, by omega, hw.1, hw.2⟩ (by omega) (by omega) (by omega) (by omega))
          have HL := fun w => Lib.hid (lowest_1 (f := 4) (v := 0) (r := 0) (m := IntKind.u32.wrap m) w ⟨by omega, by omega, by omega, by omega, hw.1, hw.2⟩)
          have HS := Lib.hid hs
          clear hs hw hv
          go_wp2_with fail
          refine (HT _ _).out.mono ?_
          rintro e wa ⟨rfl, hk⟩
          have HS6 := Lib.hid (HS.out.kp hk.kp)
          clear hk HS HT c0
          go_wp2_with fail
          refine (HL _).out.mono ?_
          rintro e wb ⟨rfl, hk⟩
          have HS7 := Lib.hid (HS6.out.kp hk)
          clear hk HS6 HL
          go_wp2_with fail
          go_roundw
          case rel => first | exact ⟨k2 + 1, by omega, by go_num, HS7.out⟩ | ((repeat apply Exists.intro); exact ⟨⟨k2 + 1, by omega, by go_num, HS7.out⟩, rfl⟩)
          case measure => simp [intOf]; omega
        · obtain rfl : k2 = 10 := by omega
          have HK := Lib.hid hs.2
          clear hs
          have HL := fun w => Lib.hid (lowest_0 (f := 9) w)
          go_wp2_with fail
          refine (HL _).out.mono ?_
          rintro e wa ⟨rfl, hk⟩
          go_wp2_with fail
          refine (HA _).out.mono ?_
          rintro e wb ⟨rfl, hg⟩
          have HK2 := Lib.hid (HK.out.trans (hk.mono HK.out.size))
          go_wp2_with fail
          go_ret
          exact ⟨rfl, HK2.out.trans (hg.kp.mono HK2.out.size)⟩
theorem law11 {W : World} : Calls Try.prog 11 #[] W fun e w' => e = .returned (.bool true) ∧ Kp W.heap.size W w' := smallP_any W
end Go.Proofs.Ytmlapjaccmoleaa
