/-
  The walk of the law WeightSums.
-/
import Derived.Test.YtgfmgfblmfacgaaDoorAwake
import Derived.Test.YtgfmgfblmfacgaaDoorTotalFn
import Derived.OpenShut
namespace Go.Proofs.YtgfmgfblmfacgaaDoor
open Go.RowKit

/-- The weights that the law makes of the first k numbers. -/
def ones (zs : List Int) (k : Nat) : List Int := (zs.take k).map fun z => 1 + z
theorem ones_length {zs : List Int} {k : Nat} (h : k ≤ zs.length) : (ones zs k).length = k := by simp [ones, h]
theorem ones_succ {zs : List Int} {k : Nat} (h : k < zs.length) : ones zs (k + 1) = ones zs k ++ [1 + zs.getD k 0] := by
  unfold ones
  rw [List.take_succ_eq_append_getElem h, List.map_append, List.getD_eq_getElem?_getD, List.getElem?_eq_getElem h]
  rfl
theorem ones_bd {zs : List Int} (hw : ∀ n ∈ zs, (Lit.int .u16 n).wf = true) : ∀ k, 0 ≤ (ones zs k).sum ∧ (ones zs k).sum ≤ 65536 * k
  | 0 => by simp [ones]
  | k + 1 => by
    have ih := ones_bd hw k
    rcases Nat.lt_or_ge k zs.length with h | h
    · have hz := bounds_u16 (hw (zs.getD k 0) (by rw [List.getD_eq_getElem?_getD, List.getElem?_eq_getElem h]; exact List.getElem_mem _))
      rw [ones_succ h, List.sum_append]
      simp only [List.sum_cons, List.sum_nil]
      omega
    · have e : ones zs (k + 1) = ones zs k := by unfold ones; rw [List.take_of_length_le (by omega), List.take_of_length_le h]
      rw [e]
      omega
theorem ones_good {zs : List Int} (hw : ∀ n ∈ zs, (Lit.int .u16 n).wf = true) (k : Nat) : ∀ x ∈ ones zs k, weB x = true := by
  intro x hx
  obtain ⟨z, hz, rfl⟩ := List.mem_map.1 hx
  have := bounds_u16 (hw z (List.mem_of_mem_take hz))
  exact weB_true (by omega) (by omega)
theorem rd_new (w : World) (e : TypeId) (z : Int) : Rd (w.alloc (.cells #[.int .i64 z] e)) 1 (some ⟨w.heap.size, 0, none⟩) 1 ([z].map (Value.int .i64)) := by
  refine ⟨rfl, fun j u hu => ⟨w.heap.size, 0, rfl, by simp, ?_⟩⟩
  cases j with
  | zero =>
    simp only [List.map_cons, List.map_nil, List.getElem?_cons_zero, Option.some.injEq] at hu
    subst hu
    rw [cell_of_row _ w.heap.size 0 #[.int .i64 z] e (0, 0) (heap_alloc_new w _)]
    rfl
  | succ j => simp at hu

theorem total_of (W : World) (A : Option Addr) (len cap : Nat) (zs : List Int) (s : Int) (hlen : zs.length = len) (hmax : len ≤ 65536) (hc : IsInts W .i64 A len zs) (hg : ∀ x ∈ zs, weB x = true) (hs : zs.sum = s) :
    Calls Tryd.prog 24 #[.slice A len cap] W fun e w' => e = .returned (.tuple #[.int .i64 s, .int .i64 0]) ∧ W = w' := by
  refine (total_any W A len cap zs hlen hc).mono fun e w' ⟨he, hw⟩ => ⟨he.trans (ret2 ?_ ?_), hw⟩
  · have : zs.all weB = true := by rw [List.all_eq_true]; exact hg
    simp [totV, this, hlen, show ¬ 65536 < len by omega, hs]
  · have : zs.all weB = true := by rw [List.all_eq_true]; exact hg
    simp [totE, this, hlen, show ¬ 65536 < len by omega]
theorem sum_good : ∀ (l : List Int), (∀ x ∈ l, weB x = true) → 0 ≤ l.sum ∧ l.sum ≤ 65536 * l.length
  | [], _ => by simp
  | x :: l, h => by
    have h1 := of_decide_eq_true (h x List.mem_cons_self)
    have h2 := sum_good l fun y hy => h y (List.mem_cons_of_mem _ hy)
    simp only [List.sum_cons, List.length_cons]
    omega

set_option maxRecDepth 100000 in
set_option maxHeartbeats 1000000 in
theorem weightSums_walk {W : World} (a : Option Addr) (len cap : Nat) (zs : List Int) (hlen : zs.length = len) (hcap : len ≤ cap) (hmax : (cap : Int) ≤ 9223372036854775807)
    (hnil : a = none → cap = 0) (hcell : IsInts W .u16 a len zs) (hwf : ∀ n ∈ zs, (Lit.int .u16 n).wf = true) (at_ : Int) (hat : (Lit.int .u8 at_).wf = true) (hT : TabW W) :
    Calls Tryd.prog 9 #[.slice a len cap, .int .u8 at_] W fun e w' => e = .returned (.bool true) ∧ Kp W.heap.size W w' := by
  obtain ⟨t0, t1⟩ := bounds_u8 hat
  obtain ⟨i0, hi, hz0, hz1, hz2⟩ := info_parts int3_info
  have HI := Lib.hid hi
  have HZ0 := Lib.hid hz0
  have HZ1 := Lib.hid hz1
  have HZ2 := Lib.hid hz2
  have HL := Lib.hid hlen
  have HW := Lib.hid hwf
  have HN := Lib.hid hnil
  clear hlen hwf hnil hat hi hz0 hz1 hz2
  have hpos := hT.pos
  by_cases h60 : len ≤ 60
  all_goals
    go_enter Tryd.func9, Tryd.ntmps9
    go_wp2_with (go_at_call 14; refine (awake_any _ hT).mono ?_; rintro e w' ⟨rfl, hk⟩)
    go_loopw [5, 6, 26] (fun v s i wr => ∃ k : Nat, k ≤ 60 ∧ k ≤ len ∧ i = .int .i64 k ∧ s = .int .i64 (ones zs k).sum ∧ wr.ownsRow W.heap.size 3 1 v k ((ones zs k).map (Value.int .i64)) ∧ Kp W.heap.size W wr)
      (fun _ _ i _ => 60 - (intOf i).toNat)
    case atStart => exact ⟨0, by omega, by omega, rfl, rfl, World.ownsRow_nil _ _ _ _, hk⟩
    case round =>
      obtain ⟨k, hk1, hk2, rfl, rfl, hown, hkp⟩ := hrel
      by_cases hlt : k < min len 60
      · have t1 : (k : Int) < len := by omega
        have t2 : (k : Int) < 60 := by omega
        obtain ⟨b, off, rfl, hc⟩ := hcell.kp hkp (i := k) (by omega)
        have hz := HW.out (zs.getD k 0) (by
          have := HL.out
          rw [List.getD_eq_getElem?_getD, List.getElem?_eq_getElem (by omega)]
          exact List.getElem_mem _)
        have hzb := bounds_u16 hz
        have hos := ones_succ (zs := zs) (k := k) (by have := HL.out; omega)
        have hsb := ones_bd HW.out k
        generalize zs.getD k 0 = z at hc hzb hos
        obtain ⟨z0, z1⟩ := hzb
        obtain ⟨s0, s1⟩ := hsb
        have HS := Lib.hid hos
        have HK := Lib.hid hkp
        have HO := Lib.hid hown
        have HC := Lib.hid hcell
        have hsum : (ones zs (k + 1)).sum = (ones zs k).sum + (1 + z) := by rw [hos, List.sum_append]; simp
        have HSUM := Lib.hid hsum
        clear hos hkp hown hcell hz hlt hsum
        generalize (ones zs k).sum = S at *
        go_wp2_with (at_builtin; refine wpList_append_rd _ rfl _ _ 42 rfl W.heap.size 3 i0 (.int .i64 0) 1 8 Tryd.underlying42 HI.out HZ0.out HZ1.out HZ2.out rfl (by decide) _ k ((ones zs k).map (Value.int .i64)) rfl ?qc1 (some ⟨wr.heap.size, 0, none⟩) 1 1 ([1 + z].map (Value.int .i64)) rfl ?qc2 (oneCells [1 + z]) ?qc4 ?qc5 ?qc6 ?_)
        case qc1 => exact own_kp HO.out ((Kp.refl _ _).alloc (Nat.le_refl _) _)
        case qc2 => exact rd_new wr _ (1 + z)
        case qc4 => unfold maxLen; omega
        case qc5 => omega
        case qc6 => simp; exact Nat.le_succ_of_le HK.out.size
        intro v' w1 hown' hgrow
        have HO2 : Hid (w1.ownsRow W.heap.size 3 1 v' (k + 1) ((ones zs (k + 1)).map (Value.int .i64))) := by rw [HS.out, List.map_append]; exact hown'
        have HK2 : Hid (Kp W.heap.size W w1) := (HK.out.alloc HK.out.size _).grown hgrow (by simp; exact Nat.le_succ_of_le HK.out.size) (fun g hg => (HO.out.lt g hg).1)
        clear hown' hgrow
        go_wp2
        go_roundw
        case rel => exact ⟨k + 1, by omega, by omega, by go_num, by rw [HSUM.out], HO2.out, HK2.out⟩
        case measure => simp [intOf]; omega
      · have t3 : ¬ ((k : Int) < len ∧ (k : Int) < 60) := by omega
        have hl := ones_length (zs := zs) (k := k) (by have := HL.out; omega)
        have hsb := ones_bd HW.out k
        have hgood := ones_good HW.out k
        generalize ones zs k = ws at *
        obtain ⟨s0, s1⟩ := hsb
        obtain ⟨A, c, rfl, hc1, hc2, hc3, hrd, hblk⟩ := own_form hown
        have HK := Lib.hid hkp
        have HO := Lib.hid hown
        have HWS := Lib.hid hl
        have HG := Lib.hid hgood
        have HR : Hid (Rd wr 1 A k (ws.map (Value.int .i64))) := hrd
        have c60 : (k : Int) ≤ 60 := by omega
        unfold maxLen at hc2
        have kk0 := Int.emod_nonneg at_ (b := (k : Int) + 1) (by omega)
        have kk1 := Int.emod_lt_of_pos at_ (b := (k : Int) + 1) (by omega)
        clear hl hgood hkp hown hcell hrd hblk hc3 t3
        obtain ⟨j, hj⟩ := Int.eq_ofNat_of_zero_le kk0
        have hj2 : j ≤ k := by omega
        clear kk0 kk1
        go_wp2_with fail
        refine (total_of wr A k c ws ws.sum HWS.out (by omega) (HR.out.isInts.2) HG.out rfl).mono ?_
        rintro e w' ⟨rfl, rfl⟩
        go_wp2_with fail
        have hjc : j ≤ c := by omega
        have hjc' : (j : Int) ≤ c := by omega
        have HE : Hid (((wr.alloc (.cells #[] 3)).drew).ownsRow wr.heap.size 3 1 (.slice (some ⟨wr.heap.size, 0, none⟩) 0 0) 0 []) :=
          (World.ownsRow_made wr #[] 0 (Nat.le_refl _) (Nat.zero_le _) rfl).drew
        have HKE : Hid (Kp wr.heap.size wr ((wr.alloc (.cells #[] 3)).drew)) := ((Kp.refl _ _).alloc (Nat.le_refl _) _).drew
        have hcut := HR.out.cut1 hj2 hc1
        obtain ⟨A', hA'⟩ : ∃ A', (if c = j then A else A.map (fun x => x.add j)) = A' := ⟨_, rfl⟩
        rw [hA'] at hcut
        have HD : Hid (Rd ((wr.alloc (.cells #[] 3)).drew) 1 A' (k - j) ((ws.drop j).map (Value.int .i64))) := by
          rw [List.map_drop]
          exact hcut.kp HKE.out
        have HD0 : Hid (Rd wr 1 A' (k - j) ((ws.drop j).map (Value.int .i64))) := Lib.hid (by rw [List.map_drop]; exact hcut)
        have htk : Rd wr 1 A j ((ws.take j).map (Value.int .i64)) := by
          rw [List.map_take]
          simpa using HR.out.take hj2
        have HTK := Lib.hid htk
        have HSE : Hid (wr.heap.size ≤ ((wr.alloc (.cells #[] 3)).drew).heap.size) := HKE.out.size
        have L1 : Hid (k ≤ 65536) := Lib.hid (by omega)
        have G1 : Hid (∀ x ∈ ws.take j, weB x = true) := fun x hx => HG.out x (List.mem_of_mem_take hx)
        have G2 : Hid (∀ x ∈ ws.drop j, weB x = true) := fun x hx => HG.out x (List.mem_of_mem_drop hx)
        have G3 : Hid (∀ x ∈ ws.drop j ++ ws.take j, weB x = true) := fun x hx => by
          rcases List.mem_append.1 hx with h | h
          · exact G2.out x h
          · exact G1.out x h
        have ST : (ws.take j).sum + (ws.drop j).sum = ws.sum := by rw [← List.sum_append, List.take_append_drop]
        have SR : Hid ((ws.drop j ++ ws.take j).sum = ws.sum) := Lib.hid (by rw [List.sum_append]; omega)
        obtain ⟨b1, b2⟩ := sum_good _ G1.out
        obtain ⟨b3, b4⟩ := sum_good _ G2.out
        have b5 := List.length_take_le j ws
        have b6 : (ws.drop j).length = k - j := by rw [List.length_drop, HWS.out]
        have b7 : (ws.take j).sum ≤ 65536 * 60 := by omega
        have b8 : (ws.drop j).sum ≤ 65536 * 60 := by omega
        have L2 : Hid ((ws.take j).length = j) := Lib.hid (by rw [List.length_take, HWS.out]; omega)
        have L3 := Lib.hid b6
        clear b2 b4 b5 b6
        have EJ : Hid (k - j + j = k) := Lib.hid (by omega)
        have M1 : Hid (0 + (k - j) ≤ maxLen) := Lib.hid (by unfold maxLen; omega)
        have M2 : Hid ((0 + (k - j)) * 8 ≤ 140737488355328) := Lib.hid (by omega)
        have M3 : Hid (k - j + j ≤ maxLen) := Lib.hid (by unfold maxLen; omega)
        have M4 : Hid ((k - j + j) * 8 ≤ 140737488355328) := Lib.hid (by omega)
        clear hcut htk
        go_region_law (first
          | (refine step_append_rd _ rfl (.tmp 54) (.tmp 57) 42 rfl wr.heap.size 3 i0 (.int .i64 0) 1 8 Tryd.underlying42 HI.out HZ0.out HZ1.out HZ2.out rfl Nat.one_pos (.slice (some ⟨wr.heap.size, 0, none⟩) 0 0) 0 [] rfl HE.out A' (k - j) (c - j) ((ws.drop j).map (Value.int .i64)) rfl HD.out (oneCells _) M1.out M2.out HSE.out ?_
             intro v1 w1 hown1 hgrow1
             have HK1 : Hid (Kp wr.heap.size wr w1) := HKE.out.grown hgrow1 HSE.out (fun g hg => (HE.out.lt g hg).1)
             have HO1 : Hid (w1.ownsRow wr.heap.size 3 1 v1 (k - j) ((ws.drop j).map (Value.int .i64))) := Lib.hid (by simpa using hown1)
             have HT1 : Hid (Rd w1 1 A j ((ws.take j).map (Value.int .i64))) := HTK.out.kp HK1.out
             clear hown1 hgrow1)
          | (refine step_append_rd _ rfl (.tmp 58) (.tmp 61) 42 rfl wr.heap.size 3 i0 (.int .i64 0) 1 8 Tryd.underlying42 HI.out HZ0.out HZ1.out HZ2.out rfl Nat.one_pos v1 (k - j) ((ws.drop j).map (Value.int .i64)) rfl HO1.out A j c ((ws.take j).map (Value.int .i64)) rfl HT1.out (oneCells _) M3.out M4.out HK1.out.size ?_
             intro v2 w2 hown2 hgrow2
             have HK2 : Hid (Kp wr.heap.size wr w2) := HK1.out.grown hgrow2 HK1.out.size (fun g hg => (HO1.out.lt g hg).1)
             have HO2 : Hid (w2.ownsRow wr.heap.size 3 1 v2 k ((ws.drop j ++ ws.take j).map (Value.int .i64))) := Lib.hid (by rw [EJ.out] at hown2; simpa using hown2)
             clear hown2 hgrow2
             obtain ⟨A2, c2, rfl, _, _, _, hrd2, _⟩ := own_form HO2.out
             have HI2 := Lib.hid hrd2.isInts
             clear hrd2)
          | (go_simp; go_at_call 24; refine (total_of w2 A2 k c2 (ws.drop j ++ ws.take j) ws.sum HI2.out.1 L1.out HI2.out.2 G3.out SR.out).mono ?_; rintro e w' ⟨rfl, rfl⟩))
        have TK2 := HTK.out.kp HK2.out
        have HD2 := HD0.out.kp HK2.out
        have C1 := Lib.hid (total_of w2 A j c (ws.take j) (ws.take j).sum L2.out (by omega) TK2.isInts.2 G1.out rfl)
        have C2 := Lib.hid (total_of w2 A' (k - j) (c - j) (ws.drop j) (ws.drop j).sum L3.out (by omega) HD2.isInts.2 G2.out rfl)
        have HF : ((ws.take j).sum + (ws.drop j).sum == ws.sum) = true := beq_iff_eq.2 ST
        clear ST TK2 HD2
        generalize (ws.take j).sum = P at *
        generalize (ws.drop j).sum = Q at *
        go_wp2_with fail
        refine (C1.out).mono ?_
        rintro e w' ⟨rfl, rfl⟩
        go_wp2_with fail
        refine (C2.out).mono ?_
        rintro e w' ⟨rfl, rfl⟩
        go_wp2_with fail
        go_ret
        exact ⟨rfl, HK.out.trans (HK2.out.mono HK.out.size)⟩
end Go.Proofs.YtgfmgfblmfacgaaDoor
