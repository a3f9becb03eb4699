/-
  The law WeightWrong, walked.
-/
import Derived.Test.YtgfmgfblmfacgaaDoorTotal
import Derived.Test.YtgfmgfblmfacgaaDoorOrder
import Derived.Deep.CutRange
import Derived.Deep.Light
namespace Go.Proofs.YtgfmgfblmfacgaaDoor
open Go.RowKit

/-- A cell that stands below the top. -/
def At (w : World) (p : Addr) (v : Value) : Prop := w.cell? p = some v ∧ p.block < w.heap.size
theorem At.kp {w w' : World} {p : Addr} {v : Value} (h : At w p v) (k : Kp w.heap.size w w') : At w' p v := ⟨(k.cell h.2).trans h.1, Nat.lt_of_lt_of_le h.2 k.size⟩
theorem At.alloc {w : World} {p : Addr} {v : Value} (h : At w p v) (o : Obj) : At (w.alloc o) p v := h.kp ((Kp.refl _ _).alloc (Nat.le_refl _) o)
theorem At.drewN {w : World} {p : Addr} {v : Value} (h : At w p v) (n : Nat) : At (w.drewN n) p v := h.kp ((Kp.refl _ _).drewN n)
theorem scE_bad {d w : Int} (h : w < 1 ∨ 65536 < w) : scE d w = 2 := by unfold scE; rw [okB_false (by omega)]; rfl
theorem scV_bad {d w : Int} (h : w < 1 ∨ 65536 < w) : scV d w = 0 := by unfold scV; rw [okB_false (by omega)]; rfl
theorem scE_bad' {d w : Int} (h : d < 0 ∨ 4294967295 < d) : scE d w = 2 := by unfold scE; rw [okB_false (by omega)]; rfl
theorem scV_bad' {d w : Int} (h : d < 0 ∨ 4294967295 < d) : scV d w = 0 ∧ scR d w = 0 ∧ apV d w = 0 := by
  refine ⟨?_, ?_, ?_⟩
  · unfold scV; rw [okB_false (by omega)]; rfl
  · unfold scR; rw [okB_false (by omega)]; rfl
  · unfold apV; rw [okB_false (by omega)]; rfl
theorem weE_bad {w : Int} (h : w < 1 ∨ 65536 < w) : weE w = 2 := by unfold weE; rw [weB_false h]; rfl
theorem tiE_bad {v rest w : Int} (h : w < 1 ∨ 65536 < w ∨ v < 0 ∨ 4503599626321920 < v ∨ rest < 0 ∨ w - 1 < rest) : tiE v rest w = 2 := by unfold tiE; rw [tiA_false h]; rfl
theorem tiE_long {w : Int} (h1 : 2 ≤ w) (h2 : w ≤ 65536) : tiE 4503599626321920 0 w = 3 := by
  unfold tiE
  rw [tiA_true (by omega) h2 (by omega) (by omega) (by omega) (by omega), tiB_false (by omega)]
  rfl
theorem tot_bad {w z : Int} (h : z < 1 ∨ 65536 < z) : totE [w, z] = 2 := by
  unfold totE
  rw [if_neg (by simp), if_neg (by simp [weB_false h])]
theorem two_ints (w : World) (B : Nat) (hB : w.heap.size = B) (x y : Int) (t : TypeId) : IsInts (w.alloc (.cells #[.int .i64 x, .int .i64 y] t)) .i64 (some ⟨B, 0, none⟩) 2 [x, y] := by
  subst hB
  intro i hi
  refine ⟨w.heap.size, 0, rfl, by simp, ?_⟩
  match i, hi with
  | 0, _ => simp
  | 1, _ => simp
theorem cell2_0 (w : World) (x y : Value) (t : TypeId) : (w.alloc (.cells #[x, y] t)).cell? ⟨w.heap.size, 0, none⟩ = some x := by simp
theorem cell2_1 (w : World) (x y : Value) (t : TypeId) : (w.alloc (.cells #[x, y] t)).cell? ⟨w.heap.size, 1, none⟩ = some y := by simp
theorem Kp.one {B : Nat} {W w w' : World} (h : Kp B W w) (hk : Kp w.heap.size w w') (hB : B ≤ w.heap.size) : Kp B W w' := h.trans (hk.mono hB)

set_option maxRecDepth 100000 in
set_option maxHeartbeats 8000000 in
theorem wrong_core {n w0 d0 w d : Int} (W : World) (hT : TabW W) (G : ∀ W, Hid (Calls Tryd.prog 18 #[.int .i64 w0, .int .i64 d0] W fun e w' => e = .returned (.tuple #[.int .i64 w, .int .i64 d]) ∧ W = w'))
    (_ : 1 ≤ w) (_ : w ≤ 65536) (_ : 0 ≤ d) (_ : d ≤ 1073741824) :
    Calls Tryd.prog 10 #[.int .i64 n, .int .i64 w0, .int .i64 d0] W fun e w' => e = .returned (.bool true) ∧ Kp W.heap.size W w' := by
  have hpos := hT.pos
  go_enter Tryd.func10, Tryd.ntmps10
  go_wp2_with fail
  refine (awake_any _ hT).mono ?_
  rintro e w1 ⟨rfl, hk⟩
  go_wp2_with fail
  refine (G _).out.mono ?_
  rintro e w' ⟨rfl, rfl⟩
  go_upto_region 4 with fail
  go_cut [67, 68, 69] from 63 to 69 (fun s l i wx => ∃ (x y : Int) (B : Nat), s = .slice (some ⟨B, 0, none⟩) 2 2 ∧ l = .int .i64 2 ∧ i = .int .i64 0 ∧ (x < 1 ∨ 65536 < x) ∧ (y < 1 ∨ 65536 < y) ∧ At wx ⟨B, 0, none⟩ (.int .i64 x) ∧ At wx ⟨B, 1, none⟩ (.int .i64 y) ∧ Kp W.heap.size W wx)
  case first =>
    go_wp2_with fail
    all_goals
      go_meet
      case rel =>
        go_light
        refine ⟨_, _, _, rfl, rfl, rfl, ?_, ?_, ⟨cell2_0 _ _ _ _, by simp⟩, ⟨cell2_1 _ _ _ _, by simp⟩, hk.alloc hk.size _⟩
        all_goals omega
  case rest =>
    obtain ⟨x, y, B, rfl, rfl, rfl, hx, hy, ax, ay, hk2⟩ := hcut
    clear hk
    go_wp2_with fail
    go_loopw [69] (fun i wr => ∃ k : Nat, k ≤ 2 ∧ i = .int .i64 k ∧ At wr ⟨B, 0, none⟩ (.int .i64 x) ∧ At wr ⟨B, 1, none⟩ (.int .i64 y) ∧ Kp W.heap.size W wr) (fun i _ => 2 - (intOf i).toNat)
    case atStart => exact ⟨0, by omega, rfl, ax, ay, hk2⟩
    case round =>
      clear ax ay hk2
      obtain ⟨k, hk, rfl, ax, ay, hkr⟩ := hrel
      by_cases hlt : (k : Int) < 2
      · obtain ⟨z, hz, az⟩ : ∃ z : Int, (z < 1 ∨ 65536 < z) ∧ At wr ⟨B, k, none⟩ (.int .i64 z) := by
          rcases (show k = 0 ∨ k = 1 by omega) with rfl | rfl
          · exact ⟨x, hx, ax⟩
          · exact ⟨y, hy, ay⟩
        have hT2 := hT.kp hkr hpos
        have H1' := fun W hT => level_any z W hT
        have H2' := fun W => scaled_any d z W
        have H3' := fun W => ticks_any 0 0 z W
        have H4' := fun W => inverse_any z W
        have H5' := fun W => approx_any d z W
        have H6' := fun W => error_any d z W
        have H7' := fun W A hc => total_any W A 2 2 [w, z] rfl hc
        rw [weE_bad hz] at H1' H4'
        rw [scE_bad hz] at H2' H5' H6'
        rw [tiE_bad (by omega)] at H3'
        rw [tot_bad hz] at H7'
        have H1 := fun W hT => Lib.hid (H1' W hT)
        have H2 := fun W => Lib.hid (H2' W)
        have H3 := fun W => Lib.hid (H3' W)
        have H4 := fun W => Lib.hid (H4' W)
        have H5 := fun W => Lib.hid (H5' W)
        have H6 := fun W => Lib.hid (H6' W)
        have H7 := fun W A hc => Lib.hid (H7' W A hc)
        have AX := Lib.hid ax
        have AY := Lib.hid ay
        have HK := Lib.hid hkr
        have c0 := az.1
        clear H1' H2' H3' H4' H5' H6' H7' ax ay hkr az
        go_wp2_with fail
        refine (H1 _ hT2).out.mono ?_
        rintro e w' ⟨rfl, rfl⟩
        go_wp2_with fail
        refine (H2 _).out.mono ?_
        rintro e w' ⟨rfl, n2, rfl⟩
        go_wp2_with fail
        refine (H3 _).out.mono ?_
        rintro e w' ⟨rfl, n3, rfl⟩
        go_wp2_with fail
        refine (H4 _).out.mono ?_
        rintro e w' ⟨rfl, rfl⟩
        go_wp2_with fail
        refine (H5 _).out.mono ?_
        rintro e w' ⟨rfl, rfl⟩
        go_wp2_with fail
        refine (H6 _).out.mono ?_
        rintro e w' ⟨rfl, n6, rfl⟩
        go_wp2_with fail
        refine (H7 _ _ ?hI).out.mono ?_
        case hI => exact two_ints _ _ (by simp) _ _ _
        rintro e w' ⟨rfl, rfl⟩
        have AX6 := Lib.hid ((AX.out.drewN (n2 + n3 + n6)).alloc (.cells #[.int .i64 w, .int .i64 z] 3))
        have AY6 := Lib.hid ((AY.out.drewN (n2 + n3 + n6)).alloc (.cells #[.int .i64 w, .int .i64 z] 3))
        have HK6 := Lib.hid ((HK.out.drewN (n2 + n3 + n6)).alloc HK.out.size (.cells #[.int .i64 w, .int .i64 z] 3))
        clear AX AY HK c0 H1 H2 H3 H4 H5 H6 H7 hT2
        generalize World.alloc _ _ = w6 at *
        generalize lvV z = q1 at *
        generalize scV d z = q2 at *
        generalize scR d z = q3 at *
        generalize tiV 0 0 z = q4 at *
        generalize tiR 0 0 z = q5 at *
        generalize inV z = q6 at *
        generalize apV d z = q7 at *
        generalize totV [w, z] = q8 at *
        dsimp only
        go_wp2_with fail
        go_loopw [124] (fun i wq => ∃ j : Nat, j ≤ 7 ∧ i = .int .i64 j ∧ wq = w6.alloc (.cells #[.int .i64 2, .int .i64 2, .int .i64 2, .int .i64 2, .int .i64 2, .int .i64 2, .int .i64 2] 25)) (fun i _ => 7 - (intOf i).toNat)
        case atStart => exact ⟨0, by omega, rfl, rfl⟩
        case round =>
          obtain ⟨j, hj, rfl, rfl⟩ := hrel
          by_cases hlj : (j : Int) < 7
          · have hcl : (w6.alloc (.cells #[.int .i64 2, .int .i64 2, .int .i64 2, .int .i64 2, .int .i64 2, .int .i64 2, .int .i64 2] 25)).cell? ⟨w6.heap.size, j, none⟩ = some (.int .i64 2) := by
              match j, hlj with
              | 0, _ => simp
              | 1, _ => simp
              | 2, _ => simp
              | 3, _ => simp
              | 4, _ => simp
              | 5, _ => simp
              | 6, _ => simp
            go_wp2_with fail
            go_roundw
            case rel => exact ⟨j + 1, by omega, by go_num, trivial⟩
            case measure => simp [intOf]; omega
          · have hj7 : j = 7 := by omega
            subst hj7
            clear hj hlj
            go_wp2_with fail
            go_roundw
            case rel => exact ⟨k + 1, by omega, by go_num, AX6.out.alloc _, AY6.out.alloc _, HK6.out.alloc HK6.out.size _⟩
            case measure => simp [intOf]; omega
      · have hk2 : k = 2 := by omega
        subst hk2
        clear hlt hk ax ay
        go_upto_region 21 with fail
        go_cut [136, 137, 138] from 132 to 138 (fun s l i wx => ∃ (x y : Int) (B : Nat), s = .slice (some ⟨B, 0, none⟩) 2 2 ∧ l = .int .i64 2 ∧ i = .int .i64 0 ∧ (x < 0 ∨ 4294967295 < x) ∧ (y < 0 ∨ 4294967295 < y) ∧ At wx ⟨B, 0, none⟩ (.int .i64 x) ∧ At wx ⟨B, 1, none⟩ (.int .i64 y) ∧ Kp W.heap.size W wx)
        case first =>
          go_wp2_with fail
          all_goals
            go_meet
            case rel =>
              go_light
              refine ⟨_, _, _, rfl, rfl, rfl, ?_, ?_, ⟨cell2_0 _ _ _ _, by simp⟩, ⟨cell2_1 _ _ _ _, by simp⟩, hkr.alloc hkr.size _⟩
              all_goals omega
        case rest =>
          obtain ⟨x, y, B, rfl, rfl, rfl, hx, hy, ax, ay, hk2⟩ := hcut
          clear hkr
          go_wp2_with fail
          go_loopw [138] (fun i wr => ∃ k : Nat, k ≤ 2 ∧ i = .int .i64 k ∧ At wr ⟨B, 0, none⟩ (.int .i64 x) ∧ At wr ⟨B, 1, none⟩ (.int .i64 y) ∧ Kp W.heap.size W wr) (fun i _ => 2 - (intOf i).toNat)
          case atStart => exact ⟨0, by omega, rfl, ax, ay, hk2⟩
          case round =>
            clear ax ay hk2
            obtain ⟨k, hk, rfl, ax, ay, hkr⟩ := hrel
            by_cases hlt : (k : Int) < 2
            · obtain ⟨z, hz, az⟩ : ∃ z : Int, (z < 0 ∨ 4294967295 < z) ∧ At wr ⟨B, k, none⟩ (.int .i64 z) := by
                rcases (show k = 0 ∨ k = 1 by omega) with rfl | rfl
                · exact ⟨x, hx, ax⟩
                · exact ⟨y, hy, ay⟩
              have H2' := fun W => scaled_any z w W
              have H5' := fun W => approx_any z w W
              have H6' := fun W => error_any z w W
              rw [(scV_bad' hz).1, (scV_bad' hz).2.1, scE_bad' hz] at H2'
              rw [(scV_bad' hz).2.2, scE_bad' hz] at H5'
              rw [(scV_bad' hz).1, (scV_bad' hz).2.2, scE_bad' hz] at H6'
              have H2 := fun W => Lib.hid (H2' W)
              have H5 := fun W => Lib.hid (H5' W)
              have H6 := fun W => Lib.hid (H6' W)
              have AX := Lib.hid ax
              have AY := Lib.hid ay
              have HK := Lib.hid hkr
              have c0 := az.1
              clear H2' H5' H6' ax ay hkr az hz
              go_wp2_with fail
              refine (H2 _).out.mono ?_
              rintro e w' ⟨rfl, n2, rfl⟩
              go_wp2_with fail
              refine (H5 _).out.mono ?_
              rintro e w' ⟨rfl, rfl⟩
              go_wp2_with fail
              refine (H6 _).out.mono ?_
              rintro e w' ⟨rfl, n6, rfl⟩
              go_wp2_with fail
              go_roundw
              case rel =>
                have AXf := (AX.out.drewN (n2 + n6))
                have AYf := (AY.out.drewN (n2 + n6))
                have HKf := (HK.out.drewN (n2 + n6))
                repeat first
                  | exact ⟨⟨k + 1, by omega, by go_num, AXf, AYf, HKf⟩, rfl⟩
                  | exact ⟨k + 1, by omega, by go_num, AXf, AYf, HKf⟩
                  | apply Exists.intro
              case measure => simp [intOf]; omega
            · have hk2 : k = 2 := by omega
              subst hk2
              clear hlt hk ax ay
              have hT2 := hT.kp hkr hpos
              have Hof := fun l W hT => Lib.hid (of_any l W hT)
              have Hti := fun v rest w W => Lib.hid (ticks_any v rest w W)
              have HK := Lib.hid hkr
              clear hkr hx hy
              go_upto_region 30 with fail
              go_cut [37] from 182 to 187 (fun s wx => s = .int .i64 2 ∧ Kp W.heap.size W wx)
              case first =>
                go_wp2_with fail
                all_goals
                    refine (Hof _ _ (hT.kp HK.out hpos)).out.mono ?_
                    rintro e w' ⟨rfl, rfl⟩
                    go_wp2_with fail
                    go_meet
                    case rel =>
                      go_light
                      exact ⟨congrArg (Value.int .i64) (by unfold ofE; rw [if_neg (by omega)]), by repeat with_reducible first | exact HK.out | apply Kp.drewN⟩
              case rest =>
              obtain ⟨rfl, hkx⟩ := hcut
              replace HK := Lib.hid hkx
              clear hkx
              go_upto_region 31 with fail
              go_cut [39] from 188 to 193 (fun s wx => s = .int .i64 2 ∧ Kp W.heap.size W wx)
              case first =>
                go_wp2_with fail
                all_goals
                    refine (Hof _ _ (hT.kp HK.out hpos)).out.mono ?_
                    rintro e w' ⟨rfl, rfl⟩
                    go_wp2_with fail
                    go_meet
                    case rel =>
                      go_light
                      exact ⟨congrArg (Value.int .i64) (by unfold ofE; rw [if_neg (by omega)]), by repeat with_reducible first | exact HK.out | apply Kp.drewN⟩
              case rest =>
              obtain ⟨rfl, hkx⟩ := hcut
              replace HK := Lib.hid hkx
              clear hkx
              go_upto_region 32 with fail
              go_cut [42] from 194 to 201 (fun s wx => s = .int .i64 2 ∧ Kp W.heap.size W wx)
              case first =>
                go_wp2_with fail
                all_goals
                    refine (Hti _ _ _ _).out.mono ?_
                    rintro e w' ⟨rfl, m, rfl⟩
                    go_wp2_with fail
                    go_meet
                    case rel =>
                      go_light
                      exact ⟨congrArg (Value.int .i64) (tiE_bad (by omega)), by repeat with_reducible first | exact HK.out | apply Kp.drewN⟩
              case rest =>
              obtain ⟨rfl, hkx⟩ := hcut
              replace HK := Lib.hid hkx
              clear hkx
              go_upto_region 33 with fail
              go_cut [45] from 202 to 209 (fun s wx => s = .int .i64 2 ∧ Kp W.heap.size W wx)
              case first =>
                go_wp2_with fail
                all_goals
                    refine (Hti _ _ _ _).out.mono ?_
                    rintro e w' ⟨rfl, m, rfl⟩
                    go_wp2_with fail
                    go_meet
                    case rel =>
                      go_light
                      exact ⟨congrArg (Value.int .i64) (tiE_bad (by omega)), by repeat with_reducible first | exact HK.out | apply Kp.drewN⟩
              case rest =>
              obtain ⟨rfl, hkx⟩ := hcut
              replace HK := Lib.hid hkx
              clear hkx
              go_upto_region 34 with fail
              go_cut [48] from 210 to 218 (fun s wx => s = .int .i64 2 ∧ Kp W.heap.size W wx)
              case first =>
                go_wp2_with fail
                all_goals
                    refine (Hti _ _ _ _).out.mono ?_
                    rintro e w' ⟨rfl, m, rfl⟩
                    go_wp2_with fail
                    go_meet
                    case rel =>
                      go_light
                      exact ⟨congrArg (Value.int .i64) (tiE_bad (by omega)), by repeat with_reducible first | exact HK.out | apply Kp.drewN⟩
              case rest =>
              obtain ⟨rfl, hkx⟩ := hcut
              replace HK := Lib.hid hkx
              clear hkx
              go_upto_region 35 with fail
              go_cut [51] from 219 to 228 (fun s wx => s = .int .i64 2 ∧ Kp W.heap.size W wx)
              case first =>
                go_wp2_with fail
                all_goals
                    refine (Hti _ _ _ _).out.mono ?_
                    rintro e w' ⟨rfl, m, rfl⟩
                    go_wp2_with fail
                    go_meet
                    case rel =>
                      go_light
                      exact ⟨congrArg (Value.int .i64) (tiE_bad (by omega)), by repeat with_reducible first | exact HK.out | apply Kp.drewN⟩
              case rest =>
              obtain ⟨rfl, hkx⟩ := hcut
              replace HK := Lib.hid hkx
              clear hkx
              go_upto_region 36 with fail
              go_cut [54] from 229 to 235 (fun s wx => s = .int .i64 3 ∧ Kp W.heap.size W wx)
              case first =>
                go_wp2_with fail
                all_goals
                    refine (Hti _ _ _ _).out.mono ?_
                    rintro e w' ⟨rfl, m, rfl⟩
                    go_wp2_with fail
                    go_meet
                    case rel =>
                      go_light
                      exact ⟨congrArg (Value.int .i64) (tiE_long (by omega) (by omega)), by repeat with_reducible first | exact HK.out | apply Kp.drewN⟩
              case rest =>
              obtain ⟨rfl, hkx⟩ := hcut
              replace HK := Lib.hid hkx
              clear hkx
              go_wp2_with fail
              go_ret
              exact ⟨rfl, HK.out⟩

theorem weightWrong_walk (n : Int) (_ : (Lit.int .i64 n).wf = true) (w0 : Int) (_ : (Lit.int .i64 w0).wf = true) (d0 : Int) (_ : (Lit.int .i64 d0).wf = true) {W : World} (hT : TabW W) :
    Calls Tryd.prog 10 #[.int .i64 n, .int .i64 w0, .int .i64 d0] W fun e w' => e = .returned (.bool true) ∧ Kp W.heap.size W w' := by
  have p0 := Int.emod_nonneg w0 (b := 65536) (by omega)
  have p1 := Int.emod_lt_of_pos w0 (b := 65536) (by omega)
  have r0 := Int.emod_nonneg d0 (b := 1073741824) (by omega)
  have r1 := Int.emod_lt_of_pos d0 (b := 1073741824) (by omega)
  exact wrong_core W hT (fun W => Lib.hid (weighed_any w0 d0 W)) (by omega) (by omega) (by omega) (by omega)
end Go.Proofs.YtgfmgfblmfacgaaDoor
