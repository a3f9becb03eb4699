/-
  The law WeightSmall, walked.
-/
import Derived.Test.YtgfmgfblmfacgaaDoorTotalFn
import Derived.Test.YtgfmgfblmfacgaaDoorTells
import Derived.Laws.MakeOwn
import Derived.Deep.Slices
import Derived.Deep.CutRange
namespace Go.Proofs.YtgfmgfblmfacgaaDoor
open Go.RowKit

theorem isInts_mk {k : IntKind} (w : World) (zs : List Int) (t : TypeId) : IsInts (w.alloc (.cells (zs.map (Value.int k)).toArray t)) k (some ⟨w.heap.size, 0, none⟩) zs.length zs := by
  intro i hi
  refine ⟨w.heap.size, 0, rfl, by simp, ?_⟩
  have h := cell_of_row (w.alloc (.cells (zs.map (Value.int k)).toArray t)) w.heap.size (0 + i) _ t (0, 0) (heap_alloc_new w _)
  rw [h]
  simp [hi]
theorem isInts_mk' {k : IntKind} (w : World) (zs : List Int) (t : TypeId) {B : Nat} (hB : w.heap.size = B) : IsInts (w.alloc (.cells (zs.map (Value.int k)).toArray t)) k (some ⟨B, 0, none⟩) zs.length zs := hB ▸ isInts_mk w zs t
theorem rd1 (w : World) (x : Int) (e : TypeId) : Rd (w.alloc (.cells #[.int .i64 x] e)) 1 (some ⟨w.heap.size, 0, none⟩) 1 ([x].map (Value.int .i64)) := Rd.ints rfl (isInts_mk w [x] e)
theorem rd3d (w : World) (x y z : Int) (e : TypeId) : Rd ((w.alloc (.cells #[.int .i64 x, .int .i64 y, .int .i64 z] e)).drew) 1 (some ⟨w.heap.size, 0, none⟩) 3 ([x, y, z].map (Value.int .i64)) := (Rd.ints rfl (isInts_mk w [x, y, z] e)).kp ((Kp.refl _ _).drewN 1)
theorem kp_al (w : World) (o : Obj) : Kp w.heap.size w (w.alloc o) := (Kp.refl _ _).alloc (Nat.le_refl _) o
/-- A row of the call's own with some whole numbers. -/
def OwnI (W w : World) (v : Value) (n : Nat) : Prop := ∃ zs : List Int, zs.length = n ∧ w.ownsRow W.heap.size 3 1 v n (zs.map (Value.int .i64)) ∧ Kp W.heap.size W w
def T1 (W w : World) (A : Option Addr) (n : Nat) (zs : List Int) : Prop := IsInts w .i64 A n zs ∧ Kp W.heap.size W w
def dss : List Int := [-9223372036854775808, -1, 0, 1, 2, 3, 17, 35, 36, 1048575, 2147495993, 4294967294, 4294967295, 4294967296, 9223372036854775807]
def T2 (W w : World) (A : Option Addr) (n : Nat) (zs : List Int) (p : Nat) : Prop := T1 W w A n zs ∧ IsInts w .i64 (some ⟨p, 0, none⟩) 15 dss
theorem T1.kp {W w w' : World} {A : Option Addr} {n : Nat} {zs : List Int} (h : T1 W w A n zs) (k : Kp w.heap.size w w') : T1 W w' A n zs := ⟨h.1.below k, h.2.trans (k.mono h.2.size)⟩
theorem T2.kp {W w w' : World} {A : Option Addr} {n p : Nat} {zs : List Int} (h : T2 W w A n zs p) (k : Kp w.heap.size w w') : T2 W w' A n zs p := ⟨h.1.kp k, h.2.below k⟩
/-- A block of whole numbers that may be written. -/
def AllI (W w : World) (p n : Nat) : Prop := (∀ i, i < n → ∃ z, w.cell? ⟨p, i, none⟩ = some (.int .i64 z)) ∧ p < w.heap.size ∧ W.heap.size ≤ p ∧ (∀ o, w.frozen? ⟨p, o, none⟩ = false) ∧ Kp W.heap.size W w
theorem AllI.set {W w : World} {p n : Nat} (h : AllI W w p n) (k : Nat) (x : Int) (hk : k < n) : AllI W (w.setCell ⟨p, k, none⟩ (.int .i64 x)) p n := by
  obtain ⟨h1, h2, h3, h4, h5⟩ := h
  refine ⟨fun i hi => ?_, by simpa using h2, h3, fun o => by simpa using h4 o, h5.setCell (p := ⟨p, k, none⟩) h3 _⟩
  by_cases e : i = k
  · subst e
    obtain ⟨z, hz⟩ := h1 i hi
    exact ⟨x, World.cell?_setCell_same _ _ _ hz⟩
  · obtain ⟨z, hz⟩ := h1 i hi
    exact ⟨z, (World.cell?_setCell_other _ _ _ _ (fun q => e (by cases q; rfl))).trans hz⟩
theorem AllI.ints {W w : World} {p n : Nat} (h : AllI W w p n) : ∃ zs : List Int, zs.length = n ∧ IsInts w .i64 (some ⟨p, 0, none⟩) n zs := by
  obtain ⟨f, hf⟩ := Go.Deep.choose_lt h.1
  refine ⟨(List.range n).map f, by simp, fun i hi => ⟨p, 0, rfl, h.2.1, ?_⟩⟩
  have e : ((List.range n).map f).getD i 0 = f i := by simp [List.getD_eq_getElem?_getD, hi]
  rw [e, Nat.zero_add]
  exact hf i hi
theorem isInts_take {w : World} {A : Option Addr} {n m : Nat} {zs : List Int} (h : IsInts w .i64 A n zs) (hm : m ≤ n) : IsInts w .i64 A m (zs.take m) := by
  intro i hi
  obtain ⟨b, off, h1, h2, h3⟩ := h i (by omega)
  refine ⟨b, off, h1, h2, ?_⟩
  rw [h3, List.getD_eq_getElem?_getD, List.getD_eq_getElem?_getD, List.getElem?_take, if_pos hi]

set_option maxRecDepth 100000 in
set_option maxHeartbeats 8000000 in
theorem smallW_any (W : World) (hT : TabW W) : Calls Tryd.prog 12 #[] W fun e w' => e = .returned (.bool true) ∧ Kp W.heap.size W w' := by
  obtain ⟨i0, hi, hz0, hz1, hz2⟩ := info_parts int3_info
  have HI := Lib.hid hi
  have HZ0 := Lib.hid hz0
  have HZ1 := Lib.hid hz1
  have HZ2 := Lib.hid hz2
  have hpos := hT.pos
  have HT := fun (a b c d : Int) (w : World) (hk : Kp W.heap.size W w) => Lib.hid (tells_any a b c d w (hT.kp hk hpos))
  have HA := fun (w : World) (hk : Kp W.heap.size W w) => Lib.hid (awake_any w (hT.kp hk hpos))
  clear hi hz0 hz1 hz2 hT hpos
  go_enter Tryd.func12, Tryd.ntmps12
  go_wp2_with fail
  go_loopw [1, 2] (fun v i wr => ∃ j : Nat, j ≤ 302 ∧ i = .int .i64 ((j : Int) - 2) ∧ OwnI W wr v j) (fun _ i _ => 400 - ((intOf i) + 2).toNat)
  case atStart => exact ⟨0, by omega, rfl, [], rfl, World.ownsRow_nil _ _ _ _, Kp.refl _ _⟩
  case round =>
    obtain ⟨j, hj, rfl, zs, hl, hown, hkp⟩ := hrel
    by_cases hlt : j < 302
    · have hji : (j : Int) - 2 < 300 := by omega
      have HO := Lib.hid hown
      have HK := Lib.hid hkp
      have HL := Lib.hid hl
      have hsz := hkp.size
      clear hown hkp hl
      go_wp2_with (at_builtin; refine wpList_append_rd _ rfl _ _ 42 rfl W.heap.size 3 i0 (.int .i64 0) 1 8 Tryd.underlying42 HI.out HZ0.out HZ1.out HZ2.out rfl (by decide) _ j (zs.map (Value.int .i64)) rfl ?qc1 (some ⟨wr.heap.size, 0, none⟩) 1 1 ([(j : Int) - 2].map (Value.int .i64)) rfl ?qc2 (oneCells [(j : Int) - 2]) ?qc4 ?qc5 ?qc6 ?_)
      case qc1 => exact own_kp HO.out ((Kp.refl _ wr).alloc (Nat.le_refl _) _)
      case qc2 => exact rd1 wr ((j : Int) - 2) _
      case qc4 => unfold maxLen; omega
      case qc5 => omega
      case qc6 => simp; omega
      intro v' w3 hown' hgrow
      have HO2 := Lib.hid (show OwnI W w3 v' (j + 1) from ⟨zs ++ [(j : Int) - 2], by simp [HL.out], by rw [List.map_append]; exact hown', (HK.out.alloc hsz _).grown hgrow (by simp; omega) (fun g hg => (HO.out.lt g hg).1)⟩)
      clear hown' hgrow HO HK
      go_wp2
      go_roundw
      case rel => exact ⟨j + 1, by omega, by congr 1; omega, HO2.out⟩
      case measure => simp [intOf]; omega
    · obtain rfl : j = 302 := by omega
      have HX := Lib.hid (show OwnI W wr _ 302 from ⟨zs, hl, hown, hkp⟩)
      clear hl hown hkp hlt hj
      go_wp2_with fail
      go_loopw [1, 3] (fun v i wr => ∃ k : Nat, 8 ≤ k ∧ k ≤ 18 ∧ i = .int .i64 k ∧ OwnI W wr v (302 + 3 * (k - 8))) (fun _ i _ => 40 - (intOf i).toNat)
      case atStart => exact ⟨8, by omega, by omega, rfl, HX.out⟩
      case round =>
        clear HX
        obtain ⟨k, hk8, hk, rfl, zs, hl, hown, hkp⟩ := hrel
        by_cases hlt : k < 18
        · have hki : (k : Int) ≤ 17 := by omega
          have HO := Lib.hid hown
          have HK := Lib.hid hkp
          have HL := Lib.hid hl
          have hsz := hkp.size
          obtain ⟨n, hn⟩ : ∃ n, n = 302 + 3 * (k - 8) := ⟨_, rfl⟩
          rw [← hn] at HO HL
          have hn2 : n ≤ 400 := by omega
          have HN := Lib.hid hn
          have M1 : Hid (n + 3 ≤ maxLen) := Lib.hid (by unfold maxLen; omega)
          have M2 : Hid ((n + 3) * 8 ≤ 140737488355328) := Lib.hid (by omega)
          clear hown hkp hl hn
          have hk0 : (0 : Int) ≤ k := by omega
          go_wp2_with fail
          go_region_law (first
            | (refine step_append_rd _ rfl (.tmp 26) (.tmp 35) 42 rfl W.heap.size 3 i0 (.int .i64 0) 1 8 Tryd.underlying42 HI.out HZ0.out HZ1.out HZ2.out rfl Nat.one_pos _ n (zs.map (Value.int .i64)) rfl (own_kp HO.out (((Kp.refl _ wr).alloc (Nat.le_refl _) _).drew)) (some ⟨wr.heap.size, 0, none⟩) 3 3 _ rfl (rd3d wr _ _ _ _) (oneCells _) M1.out M2.out (by simp; omega) ?_
               intro v1 w1 hown1 hgrow1
               rw [← List.map_append] at hown1
               have HO2 := Lib.hid (show OwnI W w1 v1 (n + 3) from ⟨_, by simp [HL.out], hown1, (((HK.out.alloc hsz _).drew).grown hgrow1 (by simp; omega) (fun g hg => (HO.out.lt g hg).1))⟩)
               clear hown1 hgrow1))
          go_simp
          go_wp2_with fail
          go_roundw
          case rel => (repeat apply Exists.intro); exact ⟨⟨k + 1, by omega, by omega, by go_num, by rw [show 302 + 3 * (k + 1 - 8) = n + 3 by have := HN.out; omega]; exact HO2.out⟩, rfl⟩
          case measure => simp [intOf]; omega
        · obtain rfl : k = 18 := by omega
          have hown2 : wr.ownsRow W.heap.size 3 1 _ 332 (zs.map (Value.int .i64)) := hown
          obtain ⟨A, c, rfl, hc1, hc2, _, hrd, _⟩ := own_form hown2
          have hz := hrd.isInts.2
          have H1 := Lib.hid (show T1 W wr A 332 zs from ⟨hz, hkp⟩)
          unfold maxLen at hc2
          clear hown hown2 hkp hrd hz hl hlt hk hk8
          go_wp2_with fail
          go_loopw [39] (fun i wr => ∃ k : Nat, k ≤ 332 ∧ i = .int .i64 k ∧ T1 W wr A 332 zs) (fun i _ => 332 - (intOf i).toNat)
          case atStart => exact ⟨0, by omega, rfl, H1.out⟩
          case round =>
            clear H1
            obtain ⟨k1, hk1, rfl, hs⟩ := hrel
            by_cases hl1 : k1 < 332
            · obtain ⟨b, off, rfl, _, c0⟩ := hs.1 k1 hl1
              generalize zs.getD k1 0 = m at *
              have H1 := Lib.hid hs
              have hki1 : (k1 : Int) < 332 := by omega
              clear hs
              go_wp2_with fail
              have h2 : Hid (T2 W (wr.alloc (.cells #[.int .i64 (-9223372036854775808), .int .i64 (-1), .int .i64 0, .int .i64 1, .int .i64 2, .int .i64 3, .int .i64 17, .int .i64 35, .int .i64 36, .int .i64 1048575, .int .i64 2147495993, .int .i64 4294967294, .int .i64 4294967295, .int .i64 4294967296, .int .i64 9223372036854775807] 3)) (some ⟨b, off, none⟩) 332 zs wr.heap.size) := Lib.hid ⟨H1.out.kp (kp_al wr _), isInts_mk wr dss 3⟩
              clear c0 H1
              generalize wr.alloc _ = w1 at *
              generalize wr.heap.size = p1 at *
              go_loopw [45] (fun i wr => ∃ k : Nat, k ≤ 15 ∧ i = .int .i64 k ∧ T2 W wr (some ⟨b, off, none⟩) 332 zs p1) (fun i _ => 15 - (intOf i).toNat)
              case atStart => exact ⟨0, by omega, rfl, h2.out⟩
              case round =>
                clear h2
                obtain ⟨k2, hk2, rfl, hs⟩ := hrel
                by_cases hl2 : k2 < 15
                · obtain ⟨b', off', e, _, c0⟩ := hs.2 k2 hl2
                  cases e
                  rw [Nat.zero_add] at c0
                  generalize dss.getD k2 0 = d at *
                  have H2 := Lib.hid hs
                  have hki2 : (k2 : Int) < 15 := by omega
                  have HS := fun w => Lib.hid (refScaled_any d m w)
                  clear hs
                  go_wp2_with fail
                  refine (HS _).out.mono ?_
                  rintro e wq ⟨rfl, rfl⟩
                  clear HS c0
                  generalize scV d m = v at *
                  generalize scR d m = r at *
                  generalize scE d m = e3 at *
                  go_wp2_with fail
                  go_loopw [11] (fun i wr => ∃ j : Nat, j ≤ 3 ∧ i = .int .i64 ((j : Int) - 1) ∧ T2 W wr (some ⟨b, off, none⟩) 332 zs p1) (fun i _ => 5 - ((intOf i) + 1).toNat)
                  case atStart => exact ⟨0, by omega, rfl, H2.out⟩
                  case round =>
                    clear H2
                    obtain ⟨j, hj3, rfl, hs⟩ := hrel
                    by_cases hlj : j < 3
                    · have hji : (j : Int) - 1 < 2 := by omega
                      have H3 := Lib.hid hs
                      clear hs
                      go_wp2_with fail
                      refine (HT _ _ _ _ _ H3.out.1.2).out.mono ?_
                      rintro e wq ⟨rfl, n1, rfl⟩
                      go_wp2_with fail
                      refine (HT _ _ _ _ _ (H3.out.1.2.drewN _)).out.mono ?_
                      rintro e wq ⟨rfl, n2, rfl⟩
                      go_wp2_with fail
                      refine (HT _ _ _ _ _ (H3.out.1.2.drewN _)).out.mono ?_
                      rintro e wq ⟨rfl, n3, rfl⟩
                      go_wp2_with fail
                      go_roundw
                      case rel => first | exact ⟨j + 1, by omega, by congr 1; omega, H3.out.kp ((Kp.refl _ _).drewN _)⟩ | ((repeat apply Exists.intro); exact ⟨⟨j + 1, by omega, by congr 1; omega, H3.out.kp ((Kp.refl _ _).drewN _)⟩, rfl⟩)
                      case measure => simp [intOf]; omega
                    · obtain rfl : j = 3 := by omega
                      have H3 := Lib.hid hs
                      clear hs
                      go_wp2_with fail
                      go_roundw
                      case rel => first | exact ⟨k2 + 1, by omega, by go_num, H3.out⟩ | ((repeat apply Exists.intro); exact ⟨⟨k2 + 1, by omega, by go_num, H3.out⟩, rfl⟩)
                      case measure => simp [intOf]; omega
                · obtain rfl : k2 = 15 := by omega
                  have H3 := Lib.hid hs
                  clear hs
                  go_wp2_with fail
                  go_roundw
                  case rel => first | exact ⟨k1 + 1, by omega, by go_num, H3.out.1⟩ | ((repeat apply Exists.intro); exact ⟨⟨k1 + 1, by omega, by go_num, H3.out.1⟩, rfl⟩)
                  case measure => simp [intOf]; omega
            · obtain rfl : k1 = 332 := by omega
              have HK := Lib.hid hs.2
              clear hs
              go_upto_region 24 with fail
              have hmk := fun (w : World) => run_make (P := Tryd.prog) w 42 3 i0 (.int .i64 0) Tryd.underlying42 HI.out HZ0.out .i64 .i64 65537 65537 (by decide) (by decide) (by rw [HZ2.out]; decide) (by decide)
              rw [HZ1.out, Nat.mul_one] at hmk
              obtain ⟨MZ, hMZ⟩ : ∃ MZ, MZ = madeCells (Value.int .i64 0).cells (65537 : Int).toNat := ⟨_, rfl⟩
              rw [← hMZ] at hmk
              have hMS : MZ.size = 65537 := by rw [hMZ, size_madeCells]; rfl
              have hMC : ∀ i, i < 65537 → MZ[i]? = some (.int .i64 0) := by
                intro i hi
                rw [hMZ]
                unfold madeCells
                have h2 : i < (65537 : Int).toNat := hi
                simp only [Array.getElem?_map]
                rw [Array.getElem?_eq_getElem (by rw [Array.size_range]; exact h2)]
                simp only [Option.map_some, Array.getElem_range]
                have h3 : i % (Value.int IntKind.i64 0).cells.size = 0 := Nat.mod_one i
                rw [h3]
                rfl
              have HMC := Lib.hid (And.intro hMS hMC)
              clear hMZ hMS hMC
              rw [show (65537 : Int).toNat = 65537 from rfl] at hmk
              go_upto_region 25 with fail
              have h5 : Hid (AllI W (wr.alloc (.cells MZ 3)) wr.heap.size 65537) := Lib.hid ⟨fun i hi => ⟨0, by
                  have h := cell_of_row (wr.alloc (.cells MZ 3)) wr.heap.size i MZ 3 (0, 0) (heap_alloc_new wr _)
                  rw [h]
                  exact HMC.out.2 i hi⟩, by simp, HK.out.size, fun o => by simp, HK.out.alloc HK.out.size _⟩
              clear HMC hmk HK
              generalize wr.alloc _ = w5 at *
              generalize wr.heap.size = p at *
              go_wp2_with fail
              go_loopw [91] (fun i wr => ∃ k : Nat, k ≤ 65537 ∧ i = .int .i64 k ∧ AllI W wr p 65537) (fun i _ => 65537 - (intOf i).toNat)
              case atStart => exact ⟨0, by omega, rfl, h5.out⟩
              case round =>
                clear h5
                obtain ⟨k, hk, rfl, hs⟩ := hrel
                by_cases hlk : k < 65537
                · obtain ⟨z, c0⟩ := hs.1 k hlk
                  have cz := hs.2.2.2.1
                  have H5 := Lib.hid hs
                  have hki : (k : Int) < 65537 := by omega
                  clear hs
                  go_wp2_with fail
                  go_roundw
                  case rel => first | exact ⟨k + 1, by omega, by go_num, H5.out.set k _ hlk⟩ | ((repeat apply Exists.intro); exact ⟨⟨k + 1, by omega, by go_num, H5.out.set k _ hlk⟩, rfl⟩)
                  case measure => simp [intOf]; omega
                · obtain rfl : k = 65537 := by omega
                  obtain ⟨ys, hyl, hyc⟩ := hs.ints
                  have HY := Lib.hid (And.intro hyl hyc)
                  have HK := Lib.hid hs.2.2.2.2
                  have HTO := fun (w : World) A len cap zs hl hc hb => Lib.hid (totalFn_any w A len cap zs hl hc hb)
                  clear hs hyl hyc HT
                  go_wp2_with fail
                  refine (HTO _ (some ⟨p, 0, none⟩) 65537 65537 ys HY.out.1 HY.out.2 (by omega)).out.mono ?_
                  rintro e wa ⟨rfl, hk1⟩
                  have hy2 := HY.out.2.below hk1
                  replace HK := Lib.hid (HK.out.trans (hk1.mono HK.out.size))
                  have HY2 := Lib.hid (And.intro HY.out.1 hy2)
                  clear hk1 hy2 HY
                  go_wp2_with fail
                  refine (HTO _ (some ⟨p, 0, none⟩) 65536 65537 (ys.take 65536) (by rw [List.length_take, HY2.out.1]; omega) (isInts_take HY2.out.2 (by omega)) (by omega)).out.mono ?_
                  rintro e wb ⟨rfl, hk1⟩
                  replace HK := Lib.hid (HK.out.trans (hk1.mono HK.out.size))
                  clear hk1 HY2
                  go_wp2_with fail
                  refine (HTO _ none 0 0 [] rfl (fun i hi => absurd hi (Nat.not_lt_zero i)) (by omega)).out.mono ?_
                  rintro e wc ⟨rfl, hk1⟩
                  replace HK := Lib.hid (HK.out.trans (hk1.mono HK.out.size))
                  clear hk1
                  go_wp2_with fail
                  refine (HTO _ (some ⟨wc.heap.size, 0, none⟩) 2 2 [1, 0] rfl (isInts_mk wc [1, 0] 3) (by omega)).out.mono ?_
                  rintro e wd ⟨rfl, hk1⟩
                  have hs1 := HK.out.size
                  replace HK := Lib.hid ((HK.out.alloc hs1 _).trans (hk1.mono (by simp; omega)))
                  clear hk1 hs1
                  go_wp2_with fail
                  refine (HTO _ (some ⟨wd.heap.size, 0, none⟩) 1 1 [65537] rfl (isInts_mk wd [65537] 3) (by omega)).out.mono ?_
                  rintro e we ⟨rfl, hk1⟩
                  have hs1 := HK.out.size
                  replace HK := Lib.hid ((HK.out.alloc hs1 _).trans (hk1.mono (by simp; omega)))
                  clear hk1 hs1
                  go_wp2_with fail
                  refine (HA _ HK.out).out.mono ?_
                  rintro e wf ⟨rfl, hk1⟩
                  have hkf := HK.out.trans (hk1.mono HK.out.size)
                  go_wp2_with fail
                  go_ret
                  exact ⟨rfl, hkf⟩
theorem law12w {W : World} (hT : TabW W) : Calls Tryd.prog 12 #[] W fun e w' => e = .returned (.bool true) ∧ Kp W.heap.size W w' := smallW_any W hT
end Go.Proofs.YtgfmgfblmfacgaaDoor
