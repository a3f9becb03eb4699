/-
  The law MoveSmall, walked.
-/
import Derived.Test.YtmlapjaccmoleaaManyW
import Derived.Test.YtmlapjaccmoleaaOneM
import Derived.Test.YtmlapjaccmoleaaThrough
namespace Go.Proofs.Ytmlapjaccmoleaa
open Go.RowKit

def nums : List Int := [0, 1, 2, 20, 21, 9223372036854775808, 18446744073709551595, 18446744073709551614, 18446744073709551615]
def wss : List Int := [0, 1, 2, 65536, 65537]
theorem nums_bd : U64s nums := u64s_of (by decide)
theorem wss_bd (j : Nat) : 0 ≤ wss.getD j 0 ∧ wss.getD j 0 ≤ 65537 := by
  rcases Nat.lt_or_ge j 5 with h | h
  · match j, h with
    | 0, _ => decide
    | 1, _ => decide
    | 2, _ => decide
    | 3, _ => decide
    | 4, _ => decide
  · rw [List.getD_eq_getElem?_getD, List.getElem?_eq_none (by simpa [wss] using h)]
    decide
def S1 (W w : World) : Prop := IsInts w .u64 (some ⟨W.heap.size, 0, none⟩) 9 nums ∧ Kp W.heap.size W w
def S2 (W w : World) (p1 : Nat) : Prop := S1 W w ∧ IsInts w .u32 (some ⟨p1, 0, none⟩) 5 wss
def S3 (W w : World) (p1 p2 : Nat) (m : Int) : Prop := S2 W w p1 ∧ IsInts w .u32 (some ⟨p2, 0, none⟩) 3 [0, 1, m]
def S5 (W w : World) (p1 p2 px : Nat) (v r m : Int) : Prop := S3 W w p1 p2 m ∧ C3 w px (.int .u64 v) (.int .u32 r) (.int .u32 m)
theorem S1.kp {W w w' : World} (h : S1 W w) (k : Kp w.heap.size w w') : S1 W w' := ⟨h.1.below k, h.2.trans (k.mono h.2.size)⟩
theorem S2.kp {W w w' : World} {p1 : Nat} (h : S2 W w p1) (k : Kp w.heap.size w w') : S2 W w' p1 := ⟨h.1.kp k, h.2.below k⟩
theorem S3.kp {W w w' : World} {p1 p2 : Nat} {m : Int} (h : S3 W w p1 p2 m) (k : Kp w.heap.size w w') : S3 W w' p1 p2 m := ⟨h.1.kp k, h.2.below k⟩
theorem S5.kp {W w w' : World} {p1 p2 px : Nat} {v r m : Int} (h : S5 W w p1 p2 px v r m) (k : Kp w.heap.size w w') : S5 W w' p1 p2 px v r m := ⟨h.1.kp k, h.2.kp k⟩
theorem kp_alloc (w : World) (o : Obj) : Kp w.heap.size w (w.alloc o) := (Kp.refl _ _).alloc (Nat.le_refl _) o
theorem ents_new (w : World) (es : List E3) (c : Array Value) (hc : c.toList = flat es) (t : TypeId) : IsEnts (w.alloc (.cells c t)) (some ⟨w.heap.size, 0, none⟩) es.length es := by
  refine Rd.ents rfl ⟨flat_length es, fun j u hu => ⟨w.heap.size, 0, rfl, by simp, ?_⟩⟩
  rw [cell_of_row _ w.heap.size (0 + j) c t (0, 0) (heap_alloc_new w _), Nat.zero_add, ← Array.getElem?_toList, hc]
  exact hu
/-- 'many' at one entity and four floors. -/
theorem many_one {v r m a b : Int} (w : World) (hb : EB v r m) (ha : 0 ≤ a ∧ a ≤ 18446744073709551615) (hb2 : 0 ≤ b ∧ b ≤ 18446744073709551615) :
    Calls Try.prog 43 #[.slice (some ⟨w.heap.size, 0, none⟩) 1 1, .slice (some ⟨w.heap.size + 1, 0, none⟩) 4 4] ((w.alloc (.cells #[.int .u64 v, .int .u32 r, .int .u32 m] 25)).alloc (.cells #[.int .u64 a, .int .u64 b, .int .u64 v, .int .u64 a] 22)) fun e w' => e = .returned (.bool true) ∧ Kp w.heap.size w w' := by
  have h1 := (ents_new w [(v, r, m)] #[.int .u64 v, .int .u32 r, .int .u32 m] rfl 25).kp (kp_alloc _ (.cells #[.int .u64 a, .int .u64 b, .int .u64 v, .int .u64 a] 22))
  have h2 : IsInts _ .u64 (some ⟨w.heap.size + 1, 0, none⟩) 4 [a, b, v, a] := isInts_at (k := .u64) (w.alloc (.cells #[.int .u64 v, .int .u32 r, .int .u32 m] 25)) [a, b, v, a] 22 (by simp)
  refine (many_any _ _ 1 1 [(v, r, m)] _ 4 4 [a, b, v, a] rfl (by omega) (fun h => by cases h) h1 (fun e he => by simp only [List.mem_singleton] at he; subst he; exact hb) rfl (by omega) (fun h => by cases h) h2 (u64s_of (fun z hz => by
    simp only [List.mem_cons, List.not_mem_nil, or_false] at hz
    rcases hz with rfl | rfl | rfl | rfl
    · exact ha
    · exact hb2
    · exact ⟨hb.v0, hb.v1⟩
    · exact ha))).mono fun e w' ⟨he, hk⟩ => ⟨he, ((kp_alloc w _).trans ((kp_alloc _ _).mono (by simp))).trans (hk.mono (by simp; omega))⟩
/-- 'many' at lists that were just made. -/
theorem many_lit (w : World) (es : List E3) (fs : List Int) (c d : Array Value) (hc : c.toList = flat es) (hd : d = (fs.map (Value.int .u64)).toArray) (he : es.length ≤ 20) (hf : fs.length ≤ 20) (hE : EBs es) (hF : U64s fs) :
    Calls Try.prog 43 #[.slice (some ⟨w.heap.size, 0, none⟩) es.length es.length, .slice (some ⟨w.heap.size + 1, 0, none⟩) fs.length fs.length] ((w.alloc (.cells c 25)).alloc (.cells d 22)) fun e w' => e = .returned (.bool true) ∧ Kp w.heap.size w w' := by
  have h1 := (ents_new w es c hc 25).kp (kp_alloc _ (.cells d 22))
  have h2 : IsInts ((w.alloc (.cells c 25)).alloc (.cells d 22)) .u64 (some ⟨w.heap.size + 1, 0, none⟩) fs.length fs := by
    subst hd
    exact isInts_at (k := .u64) (w.alloc (.cells c 25)) fs 22 (by simp)
  exact (many_any _ _ es.length es.length es _ fs.length fs.length fs rfl he (fun h => by cases h) h1 hE rfl hf (fun h => by cases h) h2 hF).mono fun e w' ⟨he, hk⟩ => ⟨he, ((kp_alloc w _).trans ((kp_alloc _ _).mono (by simp))).trans (hk.mono (by simp; omega))⟩
theorem many_nil (w : World) : Calls Try.prog 43 #[.slice none 0 0, .slice none 0 0] w fun e w' => e = .returned (.bool true) ∧ Kp w.heap.size w w' :=
  many_any w none 0 0 [] none 0 0 [] rfl (by omega) (fun _ => ⟨rfl, rfl⟩) (fun i hi => absurd hi (Nat.not_lt_zero i)) (fun e he => by cases he) rfl (by omega) (fun _ => ⟨rfl, rfl⟩) (fun i hi => absurd hi (Nat.not_lt_zero i)) (u64s_of (fun z hz => by cases hz))

set_option maxRecDepth 100000 in
set_option maxHeartbeats 8000000 in
theorem small_any (W : World) : Calls Try.prog 20 #[] W fun e w' => e = .returned (.bool true) ∧ Kp W.heap.size W w' := by
  have HA := fun W => Lib.hid (awakeM_any W)
  go_enter Try.func20, Try.ntmps20
  go_wp2_with fail
  have h1 : Hid (S1 W (W.alloc (.cells #[.int .u64 0, .int .u64 1, .int .u64 2, .int .u64 20, .int .u64 21, .int .u64 9223372036854775808, .int .u64 18446744073709551595, .int .u64 18446744073709551614, .int .u64 18446744073709551615] 22))) :=
    Lib.hid ⟨isInts_new W nums 22, kp_alloc W _⟩
  generalize W.alloc _ = w0 at *
  go_loopw [18] (fun i wr => ∃ k : Nat, k ≤ 9 ∧ i = .int .i64 k ∧ S1 W wr) (fun i _ => 9 - (intOf i).toNat)
  case atStart => exact ⟨0, by omega, rfl, h1.out⟩
  case round =>
    clear h1
    obtain ⟨k1, hk1, rfl, hs⟩ := hrel
    by_cases hl1 : k1 < 9
    · obtain ⟨b, off, e, _, c0⟩ := hs.1 k1 hl1
      cases e
      rw [Nat.zero_add] at c0
      have hv := nums_bd k1
      generalize nums.getD k1 0 = v at *
      have v0 := hv.1
      have v1 := hv.2
      have HS1 := Lib.hid hs
      have hki1 : (k1 : Int) < 9 := by omega
      clear hs hv
      go_wp2_with fail
      have h2 : Hid (S2 W (wr.alloc (.cells #[.int .u32 0, .int .u32 1, .int .u32 2, .int .u32 65536, .int .u32 65537] 23)) wr.heap.size) := Lib.hid ⟨HS1.out.kp (kp_alloc wr _), isInts_new wr wss 23⟩
      clear c0 HS1
      generalize wr.alloc _ = w1 at *
      generalize wr.heap.size = p1 at *
      go_loopw [24] (fun i wr => ∃ k : Nat, k ≤ 5 ∧ i = .int .i64 k ∧ S2 W wr p1) (fun i _ => 5 - (intOf i).toNat)
      case atStart => exact ⟨0, by omega, rfl, h2.out⟩
      case round =>
        clear h2
        obtain ⟨k2, hk2, rfl, hs⟩ := hrel
        by_cases hl2 : k2 < 5
        · obtain ⟨b, off, e, _, c0⟩ := hs.2 k2 hl2
          cases e
          rw [Nat.zero_add] at c0
          have hv := wss_bd k2
          generalize wss.getD k2 0 = m at *
          have m0 := hv.1
          have m1 := hv.2
          have HS2 := Lib.hid hs
          have hki2 : (k2 : Int) < 5 := by omega
          clear hs hv
          go_wp2_with fail
          have h3 : Hid (S3 W (wr.alloc (.cells #[.int .u32 0, .int .u32 1, .int .u32 m] 23)) p1 wr.heap.size m) := Lib.hid ⟨HS2.out.kp (kp_alloc wr _), isInts_new wr [0, 1, m] 23⟩
          clear c0 HS2
          generalize wr.alloc _ = w2 at *
          generalize wr.heap.size = p2 at *
          go_loopw [31] (fun i wr => ∃ k : Nat, k ≤ 3 ∧ i = .int .i64 k ∧ S3 W wr p1 p2 m) (fun i _ => 3 - (intOf i).toNat)
          case atStart => exact ⟨0, by omega, rfl, h3.out⟩
          case round =>
            clear h3
            obtain ⟨k3, hk3, rfl, hs⟩ := hrel
            by_cases hl3 : k3 < 3
            · obtain ⟨b, off, e, _, c0⟩ := hs.2 k3 hl3
              cases e
              rw [Nat.zero_add] at c0
              have hv : 0 ≤ [0, 1, m].getD k3 0 ∧ [0, 1, m].getD k3 0 ≤ 65537 := by
                match k3, hl3 with
                | 0, _ => simp
                | 1, _ => simp
                | 2, _ => simp; omega
              generalize [0, 1, m].getD k3 0 = r at *
              have r0 := hv.1
              have r1 := hv.2
              have HS3 := Lib.hid hs
              have hki3 : (k3 : Int) < 3 := by omega
              have hx : EB v r m := ⟨v0, v1, r0, by omega, m0, by omega⟩
              have HX := Lib.hid hx
              clear hs hv hx
              go_wp2_with fail
              have h5 : Hid (S5 W (wr.alloc (.cells #[.int .u64 v, .int .u32 r, .int .u32 m] 25)) p1 p2 wr.heap.size v r m) := Lib.hid ⟨HS3.out.kp (kp_alloc wr _), C3.new wr _ _ _ 25⟩
              clear c0 HS3
              generalize wr.alloc _ = w3 at *
              generalize wr.heap.size = px at *
              go_loopw [41] (fun i wr => ∃ k : Nat, k ≤ 9 ∧ i = .int .i64 k ∧ S5 W wr p1 p2 px v r m) (fun i _ => 9 - (intOf i).toNat)
              case atStart => exact ⟨0, by omega, rfl, h5.out⟩
              case round =>
                clear h5
                obtain ⟨k4, hk4, rfl, hs⟩ := hrel
                by_cases hl4 : k4 < 9
                · obtain ⟨b, off, e, _, c0⟩ := hs.1.1.1.1 k4 hl4
                  cases e
                  rw [Nat.zero_add] at c0
                  have hv := nums_bd k4
                  generalize nums.getD k4 0 = a at *
                  have a0 := hv.1
                  have a1 := hv.2
                  have HS4 := Lib.hid hs
                  have hki4 : (k4 : Int) < 9 := by omega
                  have hy : EB a r m := ⟨a0, a1, r0, by omega, m0, by omega⟩
                  have HY := Lib.hid hy
                  clear hs hv hy
                  go_wp2_with fail
                  clear c0
                  go_loopw [47] (fun i wr => ∃ k : Nat, k ≤ 9 ∧ i = .int .i64 k ∧ S5 W wr p1 p2 px v r m) (fun i _ => 9 - (intOf i).toNat)
                  case atStart => exact ⟨0, by omega, rfl, HS4.out⟩
                  case round =>
                    clear HS4
                    obtain ⟨k5, hk5, rfl, hs⟩ := hrel
                    by_cases hl5 : k5 < 9
                    · obtain ⟨b', off', e, _, c0⟩ := hs.1.1.1.1 k5 hl5
                      cases e
                      rw [Nat.zero_add] at c0
                      have hv := nums_bd k5
                      generalize nums.getD k5 0 = b at *
                      have b0 := hv.1
                      have b1 := hv.2
                      have HS5 := Lib.hid hs
                      have X := hs.2
                      have hki5 : (k5 : Int) < 9 := by omega
                      have hz : EB b 0 1 := ⟨b0, b1, by omega, by omega, by omega, by omega⟩
                      have HO1 := fun W q1 q2 => Lib.hid (one_any (by' := q1) (bz := q2) W HX.out HY.out hz b0 b1)
                      have HO2 := fun W q1 q2 => Lib.hid (one_any (by' := q1) (bz := q2) W HX.out hz HY.out v0 v1)
                      have HM := fun w => Lib.hid (many_one w HX.out ⟨a0, a1⟩ ⟨b0, b1⟩)
                      have X0 := X.c0
                      have X1 := X.c1
                      have X2 := X.c2
                      have Xl := X.lt
                      clear hs hv X hz
                      go_wp2_with fail
                      generalize ((IntKind.u64.wrap (a + b)).tmod 2 == 1) = q1
                      generalize (b % 2 == 1) = q2
                      have Y := (C4.new wr (.bool q1) (.int .u64 a) (.int .u32 r) (.int .u32 m) 56).alloc (.cells #[.bool q2, .int .u64 b, .int .u32 0, .int .u32 1] 56)
                      have Z : C4 ((wr.alloc (.cells #[.bool q1, .int .u64 a, .int .u32 r, .int .u32 m] 56)).alloc (.cells #[.bool q2, .int .u64 b, .int .u32 0, .int .u32 1] 56)) (wr.heap.size + 1) (.bool q2) (.int .u64 b) (.int .u32 0) (.int .u32 1) := by
                        simpa using C4.new (wr.alloc (.cells #[.bool q1, .int .u64 a, .int .u32 r, .int .u32 m] 56)) (.bool q2) (.int .u64 b) (.int .u32 0) (.int .u32 1) 56
                      have HS6 := Lib.hid (HS5.out.kp (((Kp.refl _ wr).alloc (Nat.le_refl _) (.cells #[.bool q1, .int .u64 a, .int .u32 r, .int .u32 m] 56)).alloc (by simp) (.cells #[.bool q2, .int .u64 b, .int .u32 0, .int .u32 1] 56)))
                      clear HS5 X0 X1 X2 Xl c0
                      refine (HO1 _ _ _).out.mono ?_
                      rintro e wa ⟨rfl, hg1⟩
                      replace Y := Y.kp hg1.kp
                      replace Z := Z.kp hg1.kp
                      replace HS6 := Lib.hid (HS6.out.kp hg1.kp)
                      clear hg1 HO1
                      generalize wr.heap.size + 1 = pz at *
                      generalize wr.heap.size = py at *
                      have X := HS6.out.2
                      have X0 := X.c0
                      have X1 := X.c1
                      have X2 := X.c2
                      have Xl := X.lt
                      have Y0 := Y.c0
                      have Y1 := Y.c1
                      have Y2 := Y.c2
                      have Y3 := Y.c3
                      have Yl := Y.lt
                      have Z0 := Z.c0
                      have Z1 := Z.c1
                      have Z2 := Z.c2
                      have Z3 := Z.c3
                      have Zl := Z.lt
                      go_wp2_with fail
                      clear X0 X1 X2 Xl Y0 Y1 Y2 Y3 Yl Z0 Z1 Z2 Z3 Zl X
                      refine (HO2 _ _ _).out.mono ?_
                      rintro e wb ⟨rfl, hg1⟩
                      replace HS6 := Lib.hid (HS6.out.kp hg1.kp)
                      clear hg1 HO2 Y Z
                      have X := HS6.out.2
                      have X0 := X.c0
                      have X1 := X.c1
                      have X2 := X.c2
                      have Xl := X.lt
                      by_cases hm3 : m < 3
                      · go_wp2_with fail
                        refine (HM _).out.mono ?_
                        rintro e wc ⟨rfl, hk⟩
                        clear X0 X1 X2 Xl X
                        replace HS6 := Lib.hid (HS6.out.kp hk)
                        clear hk
                        go_wp2_with fail
                        go_roundw
                        case rel => exact ⟨k5 + 1, by omega, by go_num, HS6.out⟩
                        case measure => simp [intOf]; omega
                      · go_wp2_with fail
                        go_roundw
                        case rel => exact ⟨k5 + 1, by omega, by go_num, HS6.out⟩
                        case measure => simp [intOf]; omega
                    · obtain rfl : k5 = 9 := by omega
                      have HS := Lib.hid hs
                      clear hs
                      go_wp2_with fail
                      go_roundw
                      case rel => exact ⟨k4 + 1, by omega, by go_num, HS.out⟩
                      case measure => simp [intOf]; omega
                · obtain rfl : k4 = 9 := by omega
                  have HS := Lib.hid hs
                  clear hs
                  go_wp2_with fail
                  go_roundw
                  case rel => exact ⟨k3 + 1, by omega, by go_num, HS.out.1⟩
                  case measure => simp [intOf]; omega
            · obtain rfl : k3 = 3 := by omega
              have HS := Lib.hid hs
              clear hs
              go_wp2_with fail
              go_roundw
              case rel => exact ⟨k2 + 1, by omega, by go_num, HS.out.1⟩
              case measure => simp [intOf]; omega
        · obtain rfl : k2 = 5 := by omega
          have HS := Lib.hid hs
          clear hs
          go_wp2_with fail
          go_roundw
          case rel => exact ⟨k1 + 1, by omega, by go_num, HS.out.1⟩
          case measure => simp [intOf]; omega
    · obtain rfl : k1 = 9 := by omega
      have HK := Lib.hid hs.2
      clear hs
      have H1 := fun w => Lib.hid (many_nil w)
      have H2 := fun w => Lib.hid (many_lit w [(0, 0, 1)] [5] #[.int .u64 0, .int .u32 0, .int .u32 1] #[.int .u64 5] rfl rfl (by decide) (by decide) (fun e he => by simp only [List.mem_singleton] at he; subst he; exact ⟨by decide, by decide, by decide, by decide, by decide, by decide⟩) (u64s_of (by decide)))
      have H3 := fun w => Lib.hid (many_lit w [(0, 0, 1), (0, 0, 0)] [5, 6] #[.int .u64 0, .int .u32 0, .int .u32 1, .int .u64 0, .int .u32 0, .int .u32 0] #[.int .u64 5, .int .u64 6] rfl rfl (by decide) (by decide) (fun e he => by simp only [List.mem_cons, List.not_mem_nil, or_false] at he; rcases he with rfl | rfl <;> exact ⟨by decide, by decide, by decide, by decide, by decide, by decide⟩) (u64s_of (by decide)))
      go_wp2_with fail
      refine (H1 _).out.mono ?_
      rintro e wa ⟨rfl, hk⟩
      replace HK := Lib.hid (HK.out.trans (hk.mono HK.out.size))
      clear hk H1
      go_wp2_with fail
      refine (H2 _).out.mono ?_
      rintro e wb ⟨rfl, hk⟩
      replace HK := Lib.hid (HK.out.trans (hk.mono HK.out.size))
      clear hk H2
      go_wp2_with fail
      refine (H3 _).out.mono ?_
      rintro e wc ⟨rfl, hk⟩
      replace HK := Lib.hid (HK.out.trans (hk.mono HK.out.size))
      clear hk H3
      go_wp2_with fail
      refine (HA _).out.mono ?_
      rintro e wd ⟨rfl, hg⟩
      go_wp2_with fail
      go_ret
      exact ⟨rfl, HK.out.trans (hg.kp.mono HK.out.size)⟩
theorem law20 {W : World} : Calls Try.prog 20 #[] W fun e w' => e = .returned (.bool true) ∧ Kp W.heap.size W w' := small_any W
end Go.Proofs.Ytmlapjaccmoleaa
