/-
  The law PlaceFloors, walked.
-/
import Derived.Test.YtmlapjaccmoleaaPFls
import Derived.Test.YtmlapjaccmoleaaAwakeM
import Derived.Deep.CutRange
import Derived.Deep.RegionLaw
namespace Go.Proofs.Ytmlapjaccmoleaa
open Go.RowKit

theorem ents_nw (w : World) (e : E3) : IsEnts (w.alloc (.cells #[.int .u64 e.1, .int .u32 e.2.1, .int .u32 e.2.2] 25)) (some ⟨w.heap.size, 0, none⟩) 1 [e] := (rd_ent w e.1 e.2.1 e.2.2 25).ents rfl

theorem flat_drop : ∀ (q : Nat) (es : List E3), flat (es.drop q) = (flat es).drop (q * 3)
  | 0, _ => by simp
  | q + 1, [] => by simp [flat]
  | q + 1, e :: es => by
    rw [List.drop_succ_cons, flat_drop q es, flat_cons, show (q + 1) * 3 = q * 3 + 1 + 1 + 1 by omega]
    simp only [List.drop_succ_cons]
theorem flat_take : ∀ (q : Nat) (es : List E3), flat (es.take q) = (flat es).take (q * 3)
  | 0, _ => by simp [flat]
  | q + 1, [] => by simp [flat]
  | q + 1, e :: es => by
    rw [List.take_succ_cons, flat_cons, flat_take q es, flat_cons, show (q + 1) * 3 = q * 3 + 1 + 1 + 1 by omega]
    simp only [List.take_succ_cons]

set_option maxRecDepth 100000 in
set_option maxHeartbeats 8000000 in
theorem pf_any {f v g : Int} (W : World) (B : Option Addr) (lb cb n : Nat) (zs : List Int) (hn20 : n ≤ 20) (hnl : n = lb ∨ (n = 20 ∧ 20 ≤ lb)) (hcap : lb ≤ cb) (hmax : (cb : Int) ≤ 9223372036854775807) (hc : IsInts W .u64 B lb zs) (hz : U64s zs)
    (f0 : 0 ≤ f) (f1 : f ≤ 18446744073709551615) (v0 : 0 ≤ v) (v1 : v ≤ 18446744073709551615) (g0 : 0 ≤ g) (g1 : g ≤ 255) :
    Calls Try.prog 7 #[.int .u64 f, .slice B lb cb, .int .u64 v, .int .u8 g] W fun e w' => e = .returned (.bool true) ∧ Kp W.heap.size W w' := by
  obtain ⟨i0, hi, hz0, hz1, hz2⟩ := info_parts ent_info
  have HI := Lib.hid hi
  have HZ0 := Lib.hid hz0
  have HZ1 := Lib.hid hz1
  have HZ2 := Lib.hid hz2
  have HA := fun W => Lib.hid (awakeP_any W)
  have hnlen : n ≤ lb := by omega
  have HC := Lib.hid hc
  have HZ := Lib.hid hz
  have HNL := Lib.hid hnl
  have hok := qsV_ok hz (n := n) (by omega)
  have HOK := Lib.hid hok
  have HM := fun (w : World) (i : Nat) (hi : i < n) => Lib.hid (made_any (v := zs.getD i 0) (m := (i : Int)) (r := IntKind.u16.wrap (zs.getD i 0)) w (by omega) (by omega) (bounds_u16 (wf_wrap .u16 _)).1 (bounds_u16 (wf_wrap .u16 _)).2)
  obtain ⟨RV, hRV⟩ : ∃ RV, RV = mdR v 1 1 := ⟨_, rfl⟩
  have HV := fun (w : World) => Lib.hid (show Calls Try.prog 23 #[.int .u64 v, .int .u16 1, .int .u16 1] w fun e w' => e = .returned (ent v RV 2) ∧ Grew 2 w w' by rw [hRV]; exact made_any (v := v) (m := 1) (r := 1) w (by omega) (by omega) (by omega) (by omega))
  have hxb : EB v RV 2 := by rw [hRV]; exact mdR_eb (v := v) (m := 1) (r := 1) v0 v1 (by omega) (by omega)
  have hxr : rightE (v, RV, 2) = true := by rw [hRV]; exact mdR_right (v := v) (m := 1) (r := 1) (by omega) (by omega)
  have HX := Lib.hid (And.intro hxb hxr)
  clear hRV hxb hxr
  have hn20' : (n : Int) ≤ 20 := by omega
  have hnlen' : (n : Int) ≤ lb := by omega
  clear hi hz0 hz1 hz2 hc hz hok hnl
  go_enter Try.func7, Try.ntmps7
  go_wp2_with fail
  refine (HA _).out.mono ?_
  rintro e w1 ⟨rfl, hg1⟩
  have HK := Lib.hid hg1.kp
  clear hg1 HA
  go_upto_region 5 with fail
  go_cut [30, 31, 32] from 26 to 29 (fun s l i w' => s = .slice B n cb ∧ l = .int .i64 n ∧ i = .int .i64 0 ∧ w1 = w')
  case first =>
    rcases HNL.out with rfl | ⟨rfl, h⟩
    · go_wp2_with fail
      all_goals
        go_meet
        case rel => exact ⟨by first | rfl | (congr 1; omega), by first | rfl | (congr 1; omega), rfl, rfl⟩
    · have h' : (20 : Int) ≤ lb := by omega
      go_wp2_with fail
      all_goals
        go_meet
        case rel => exact ⟨by first | rfl | (congr 1; omega), by first | rfl | (congr 1; omega), rfl, rfl⟩
  case rest =>
  obtain ⟨rfl, rfl, rfl, rfl⟩ := hcut
  go_wp2_with fail
  go_loopw [9, 10, 32] (fun o l i wr => ∃ j : Nat, j ≤ n ∧ i = .int .i64 j ∧ l = .int .u64 (lvV (qsV zs j)) ∧ wr.ownsRow W.heap.size 25 3 o j (flat (qsV zs j)) ∧ Kp W.heap.size W wr) (fun _ _ i _ => n - (intOf i).toNat)
  case atStart => exact ⟨0, Nat.zero_le _, rfl, rfl, World.ownsRow_nil _ _ _ _, HK.out⟩
  case round =>
    clear HK
    obtain ⟨j, hj, rfl, rfl, hown, hkp⟩ := hrel
    by_cases hlt : j < n
    · obtain ⟨b, off, rfl, _, c0⟩ := (HC.out.below hkp) j (by omega)
      have hzb := HZ.out j
      have hlb := lvV_bd (qsV_ok HZ.out (n := j) (by omega)).1
      have hS := qsV_succ zs j
      have hL : lvV (qsV zs (j + 1)) = if zs.getD j 0 < lvV (qsV zs j) then zs.getD j 0 else lvV (qsV zs j) := by
        rw [hS, lvV_app _ _ (by rw [lvV_one _ hzb.2]; exact hzb.2), lvV_one _ hzb.2]
        rfl
      have HS := Lib.hid (show flat (qsV zs (j + 1)) = flat (qsV zs j) ++ flat [mkQ zs j] by rw [hS, flat_app])
      have hMM := fun W => HM W j hlt
      have HKP := Lib.hid hkp
      have HO := Lib.hid hown
      have hji : (j : Int) < n := by omega
      have hsz := hkp.size
      unfold mkQ at HS
      generalize mdR (zs.getD j 0) j (IntKind.u16.wrap (zs.getD j 0)) = R at *
      generalize zs.getD j 0 = z at *
      have z0 := hzb.1
      have z1 := hzb.2
      have HL := Lib.hid hL
      generalize lvV (qsV zs j) = L at *
      have l0 := hlb.1
      have l1 := hlb.2
      clear hS hkp hown hzb hL hlb
      go_wp2_with fail
      refine (hMM _).out.mono ?_
      rintro e w2 ⟨rfl, hg1⟩
      have HO1 := Lib.hid (own_kp HO.out hg1.kp)
      have HK1 := Lib.hid (HKP.out.trans (hg1.kp.mono hsz))
      clear hMM hg1 c0 HO HKP hsz
      have hsz1 := HK1.out.size
      go_wp2_with (at_builtin; refine wpList_append_rd _ rfl _ _ 44 rfl W.heap.size 25 i0 (.agg #[.int .u64 0, .int .u32 0, .int .u32 0]) 3 16 Try.underlying44 HI.out HZ0.out HZ1.out HZ2.out rfl (by decide) _ j (flat (qsV zs j)) rfl ?qc1 (some ⟨w2.heap.size, 0, none⟩) 1 1 (flat [(z, R, 1 + (j : Int))]) rfl ?qc2 (flat_one [(z, R, 1 + (j : Int))]) ?qc4 ?qc5 ?qc6 ?_)
      case qc1 => exact own_kp HO1.out ((Kp.refl _ w2).alloc (Nat.le_refl _) _)
      case qc2 => exact rd_ent w2 z R (1 + j) 25
      case qc4 => unfold maxLen; omega
      case qc5 => omega
      case qc6 => simp; omega
      intro v' w3 hown' hgrow
      have HO2 := Lib.hid (show w3.ownsRow W.heap.size 25 3 v' (j + 1) (flat (qsV zs (j + 1))) by rw [HS.out]; exact hown')
      have HK2 := Lib.hid ((HK1.out.alloc hsz1 _).grown hgrow (by simp; omega) (fun g hg => (HO1.out.lt g hg).1))
      clear hown' hgrow HO1 HK1 hsz1
      rcases Int.lt_or_le z L with h | h
      · have h2 := HL.out
        rw [if_pos h] at h2
        have HL2 := Lib.hid h2
        clear h2 HL
        go_wp2
        go_roundw
        case rel => exact ⟨j + 1, by omega, by go_num, by rw [HL2.out], HO2.out, HK2.out⟩
        case measure => simp [intOf]; omega
      · have h2 := HL.out
        rw [if_neg (by omega)] at h2
        have HL2 := Lib.hid h2
        clear h2 HL
        go_wp2
        go_roundw
        case rel => exact ⟨j + 1, by omega, by go_num, by rw [HL2.out], HO2.out, HK2.out⟩
        case measure => simp [intOf]; omega
    · obtain rfl : j = n := by omega
      have HKP := Lib.hid hkp
      have hlb := lvV_bd HOK.out.1
      have l0 := hlb.1
      have l1 := hlb.2
      have HQL := Lib.hid (qsV_len zs j)
      obtain ⟨qs, hqs⟩ : ∃ qs, qs = qsV zs j := ⟨_, rfl⟩
      rw [← hqs] at hown l0 l1 HOK HQL
      rw [← hqs]
      obtain ⟨L, hL⟩ : ∃ L, L = lvV qs := ⟨_, rfl⟩
      rw [← hL] at l0 l1
      rw [← hL]
      replace hL := Lib.hid hL
      have HOWN := Lib.hid hown
      obtain ⟨A, c, rfl, hc1, hc2, hc3, hrd, hblk⟩ := own_form hown
      have HR := Lib.hid hrd
      unfold maxLen at hc2
      have hno : ¬ (j : Int) < (j : Int) := by omega
      clear hown hrd hblk hc3 hkp hlb hlt hj HM HZ HC hqs
      by_cases h0 : j = 0
      · subst h0
        have HF0 := fun (w : World) => Lib.hid (floor_nil (f := f) w A c)
        have HF1 := fun (w : World) => Lib.hid (floor_of (f := f) (w.alloc (.cells #[.int .u64 v, .int .u32 RV, .int .u32 2] 25)) (some ⟨w.heap.size, 0, none⟩) 1 1 [(v, RV, 2)] rfl (by omega) (by omega) (ents_nw w (v, RV, 2)) (fun e he => by simp only [List.mem_singleton] at he; subst he; exact HX.out.1) (by simp only [List.all_cons, List.all_nil, Bool.and_true]; exact HX.out.2))
        rw [show lvV [(v, RV, 2)] = v from lvV_one _ v1] at HF1
        obtain ⟨N, hN⟩ : ∃ N, N = flW f v := ⟨_, rfl⟩
        rw [← hN] at HF1
        have HN := Lib.hid hN
        clear hN
        go_wp2_with fail
        refine (HF0 _).out.mono ?_
        rintro e w2 ⟨rfl, hg1⟩
        replace HKP := Lib.hid (HKP.out.trans (hg1.kp.mono HKP.out.size))
        clear hg1 HF0
        go_wp2_with fail
        refine (HV _).out.mono ?_
        rintro e w3 ⟨rfl, hg1⟩
        replace HKP := Lib.hid (HKP.out.trans (hg1.kp.mono HKP.out.size))
        clear hg1 HV
        go_wp2_with fail
        refine (HF1 _).out.mono ?_
        rintro e w4 ⟨rfl, hg1⟩
        have hs := HKP.out.size
        replace HKP := Lib.hid ((HKP.out.alloc hs _).trans (hg1.kp.mono (by simp; omega)))
        clear hg1 HF1
        rcases Int.lt_or_le f v with h | h
        · have e : N = v := by have := HN.out; unfold flW at this; rw [if_pos h] at this; exact this
          subst e
          clear HN
          go_wp2_with fail
          all_goals
            go_ret
            exact ⟨by first | rfl | (simp; done), HKP.out⟩
        · have e : N = f := by have := HN.out; unfold flW at this; rw [if_neg (by omega)] at this; exact this
          subst e
          clear HN
          go_wp2_with fail
          all_goals
            go_ret
            exact ⟨by first | rfl | (simp; done), HKP.out⟩
      · have hj0 : 0 < j := by omega
        have hj0' : (0 : Int) < j := by omega
        have hjb : ((j : Int) == 0) = false := beq_eq_false_iff_ne.2 (by omega)
        have kk0 := Int.emod_nonneg g (b := (j : Int)) (by omega)
        have kk1 := Int.emod_lt_of_pos g (b := (j : Int)) (by omega)
        obtain ⟨q, hq⟩ := Int.eq_ofNat_of_zero_le kk0
        have hq2 : q ≤ j := by omega
        have HFL := fun (f : Int) (w : World) (A : Option Addr) (c : Nat) (h : IsEnts w A j qs) => Lib.hid (floor_of (f := f) w A j c qs HQL.out hj0 (by omega) h HOK.out.1 HOK.out.2)
        rw [← hL.out] at HFL
        have hperm : lvV (qs.drop q ++ qs.take q) = L := by
          have e1 : EBs (qs.take q) := fun e he => HOK.out.1 e (List.mem_of_mem_take he)
          have e2 : EBs (qs.drop q) := fun e he => HOK.out.1 e (List.mem_of_mem_drop he)
          have e3 := lvV_app (qs.take q) (qs.drop q) (lvV_bd e2).2
          rw [List.take_append_drop, ← hL.out] at e3
          rw [lvV_app _ _ (lvV_bd e1).2, e3]
          repeat' split
          all_goals omega
        have hplen : (qs.drop q ++ qs.take q).length = j := by have := HQL.out; simp; omega
        have HFP := fun (w : World) (A : Option Addr) (c : Nat) (h : IsEnts w A j (qs.drop q ++ qs.take q)) => Lib.hid (floor_of (f := f) w A j c _ hplen hj0 (by omega) h (fun e he => by
          rcases List.mem_append.1 he with h | h
          · exact HOK.out.1 e (List.mem_of_mem_drop h)
          · exact HOK.out.1 e (List.mem_of_mem_take h)) (by
          rw [List.all_eq_true]
          intro e he
          have h2 := List.all_eq_true.1 HOK.out.2
          rcases List.mem_append.1 he with h | h
          · exact h2 e (List.mem_of_mem_drop h)
          · exact h2 e (List.mem_of_mem_take h)))
        rw [hperm] at HFP
        have hmlen : (qs ++ [(v, RV, 2)]).length = j + 1 := by have := HQL.out; simp; omega
        have hmore : lvV (qs ++ [(v, RV, 2)]) = if v < L then v else L := by rw [lvV_app _ _ (by rw [lvV_one _ v1]; exact v1), lvV_one _ v1, hL.out]
        have HFM := fun (w : World) (A : Option Addr) (c : Nat) (h : IsEnts w A (j + 1) (qs ++ [(v, RV, 2)])) => Lib.hid (floor_of (f := f) w A (j + 1) c _ hmlen (by omega) (by omega) h (fun e he => by
          rcases List.mem_append.1 he with h | h
          · exact HOK.out.1 e h
          · simp only [List.mem_singleton] at h; subst h; exact HX.out.1) (by
          rw [List.all_eq_true]
          intro e he
          rcases List.mem_append.1 he with h | h
          · exact List.all_eq_true.1 HOK.out.2 e h
          · simp only [List.mem_singleton] at h; subst h; exact HX.out.2))
        rw [hmore] at HFM
        obtain ⟨MO, hMO⟩ : ∃ MO, MO = flW f (if v < L then v else L) := ⟨_, rfl⟩
        rw [← hMO] at HFM
        obtain ⟨N, hN⟩ : ∃ N, N = flW f L := ⟨_, rfl⟩
        have hN2 : flW N L = N := by rw [hN]; unfold flW; repeat' split; all_goals omega
        have hm1 : f ≤ MO := by rw [hMO]; unfold flW; repeat' split; all_goals omega
        have hm2 : MO ≤ N := by rw [hMO, hN]; unfold flW; repeat' split; all_goals omega
        have HF1 := fun w A c h => HFL f w A c h
        have HF2 := fun w A c h => HFL N w A c h
        rw [hN2] at HF2
        rw [← hN] at HF1 HFP
        have hcase : (f < L ∧ N = L) ∨ (L ≤ f ∧ N = f) := by
          rcases Int.lt_or_le f L with h | h
          · exact Or.inl ⟨h, by rw [hN]; unfold flW; rw [if_pos h]⟩
          · exact Or.inr ⟨h, by rw [hN]; unfold flW; rw [if_neg (by omega)]⟩
        have HCASE := Lib.hid hcase
        have HPL := Lib.hid hplen
        have HML := Lib.hid hmlen
        clear hperm hplen hmlen hmore hMO hN hN2 HFL kk0 hcase hL
        go_wp2_with fail
        refine (HF1 _ _ _ (HR.out.ents HQL.out)).out.mono ?_
        rintro e w2 ⟨rfl, hg1⟩
        replace HR := Lib.hid (HR.out.kp hg1.kp)
        replace HKP := Lib.hid (HKP.out.trans (hg1.kp.mono HKP.out.size))
        clear hg1 HF1 HOWN
        go_upto_region 16 with fail
        go_cut [17, 18, 19] from 83 to 101 (fun k m e w' => k = .int .i64 (q : Int) ∧ m = .int .u64 N ∧ e = .int .i64 0 ∧ Kp w2.heap.size w2 w')
        case first =>
          have hjc : q ≤ c := by omega
          have hjc' : (q : Int) ≤ c := by omega
          have HE : Hid (((w2.alloc (.cells #[] 25)).drew).ownsRow w2.heap.size 25 3 (.slice (some ⟨w2.heap.size, 0, none⟩) 0 0) 0 []) :=
            (World.ownsRow_made w2 #[] 0 (Nat.le_refl _) (Nat.zero_le _) rfl).drew
          have HKE : Hid (Kp w2.heap.size w2 ((w2.alloc (.cells #[] 25)).drew)) := ((Kp.refl _ _).alloc (Nat.le_refl _) _).drew
          have hcut := HR.out.cut hq2 hc1
          obtain ⟨A', hA'⟩ : ∃ A', (if c = q then A else A.map (fun x => x.add (q * 3))) = A' := ⟨_, rfl⟩
          rw [hA'] at hcut
          have HD : Hid (Rd ((w2.alloc (.cells #[] 25)).drew) 3 A' (j - q) (flat (qs.drop q))) := by
            rw [flat_drop]
            exact hcut.kp HKE.out
          have htk : Rd w2 3 A q (flat (qs.take q)) := by
            rw [flat_take]
            exact HR.out.take hq2
          have HTK := Lib.hid htk
          have HSE : Hid (w2.heap.size ≤ ((w2.alloc (.cells #[] 25)).drew).heap.size) := HKE.out.size
          have EJ : Hid (j - q + q = j) := Lib.hid (by omega)
          have M1 : Hid (0 + (j - q) ≤ maxLen) := Lib.hid (by unfold maxLen; omega)
          have M2 : Hid ((0 + (j - q)) * 16 ≤ 140737488355328) := Lib.hid (by omega)
          have M3 : Hid (j - q + q ≤ maxLen) := Lib.hid (by unfold maxLen; omega)
          have M4 : Hid ((j - q + q) * 16 ≤ 140737488355328) := Lib.hid (by omega)
          clear hcut htk
          go_region_law (first
            | (refine step_append_rd _ rfl (.tmp 90) (.tmp 93) 44 rfl w2.heap.size 25 i0 (.agg #[.int .u64 0, .int .u32 0, .int .u32 0]) 3 16 Try.underlying44 HI.out HZ0.out HZ1.out HZ2.out rfl (by decide) (.slice (some ⟨w2.heap.size, 0, none⟩) 0 0) 0 [] rfl HE.out A' (j - q) (c - q) (flat (qs.drop q)) rfl HD.out (flat_one _) M1.out M2.out HSE.out ?_
               intro v1 w1 hown1 hgrow1
               have HK1 : Hid (Kp w2.heap.size w2 w1) := HKE.out.grown hgrow1 HSE.out (fun g hg => (HE.out.lt g hg).1)
               have HO1 : Hid (w1.ownsRow w2.heap.size 25 3 v1 (j - q) (flat (qs.drop q))) := Lib.hid (by simpa using hown1)
               have HT1 : Hid (Rd w1 3 A q (flat (qs.take q))) := HTK.out.kp HK1.out
               clear hown1 hgrow1)
            | (refine step_append_rd _ rfl (.tmp 94) (.tmp 97) 44 rfl w2.heap.size 25 i0 (.agg #[.int .u64 0, .int .u32 0, .int .u32 0]) 3 16 Try.underlying44 HI.out HZ0.out HZ1.out HZ2.out rfl (by decide) v1 (j - q) (flat (qs.drop q)) rfl HO1.out A q c (flat (qs.take q)) rfl HT1.out (flat_one _) M3.out M4.out HK1.out.size ?_
               intro v2 w3 hown2 hgrow2
               have HK2 : Hid (Kp w2.heap.size w2 w3) := HK1.out.grown hgrow2 HK1.out.size (fun g hg => (HO1.out.lt g hg).1)
               have HO2 : Hid (w3.ownsRow w2.heap.size 25 3 v2 j (flat (qs.drop q ++ qs.take q))) := Lib.hid (by rw [EJ.out] at hown2; rw [flat_app]; exact hown2)
               clear hown2 hgrow2
               obtain ⟨A2, c2, rfl, _, _, _, hrd2, _⟩ := own_form HO2.out
               have HI2 := Lib.hid (hrd2.ents HPL.out)
               clear hrd2)
            | (go_simp; go_at_call 32; refine (HFP _ _ _ HI2.out).out.mono ?_; rintro e w4 ⟨rfl, hg4⟩; have HK4 := Lib.hid (HK2.out.trans (hg4.kp.mono HK2.out.size)); clear hg4))
          all_goals
            go_simp
            go_wp2_with fail
            go_meet
            case rel => exact ⟨by first | rfl | rw [hq], rfl, rfl, HK4.out⟩
        case rest =>
        obtain ⟨rfl, rfl, rfl, hk4⟩ := hcut
        clear hq kk1
        replace HR := Lib.hid (HR.out.kp hk4)
        replace HKP := Lib.hid (HKP.out.trans (hk4.mono HKP.out.size))
        clear hk4 HFP HPL
        go_upto_region 17 with fail
        go_cut [20, 21] from 102 to 113 (fun m e w' => m = .int .u64 MO ∧ e = .int .i64 0 ∧ Kp wc.heap.size wc w')
        case first =>
          have HE : Hid ((wc.alloc (.cells #[] 25)).ownsRow wc.heap.size 25 3 (.slice (some ⟨wc.heap.size, 0, none⟩) 0 0) 0 []) :=
            Lib.hid (World.ownsRow_made wc #[] 0 (Nat.le_refl _) (Nat.zero_le _) rfl)
          have HKE : Hid (Kp wc.heap.size wc (wc.alloc (.cells #[] 25))) := Lib.hid ((Kp.refl _ _).alloc (Nat.le_refl _) _)
          go_wp2_with (at_builtin; refine wpList_append_rd _ rfl _ _ 44 rfl wc.heap.size 25 i0 (.agg #[.int .u64 0, .int .u32 0, .int .u32 0]) 3 16 Try.underlying44 HI.out HZ0.out HZ1.out HZ2.out rfl (by decide) _ 0 [] rfl HE.out A j c (flat qs) rfl (HR.out.kp HKE.out) (flat_one _) ?qd4 ?qd5 HKE.out.size ?_)
          case qd4 => unfold maxLen; omega
          case qd5 => omega
          intro v1 w3 hown1 hgrow1
          have HK1 : Hid (Kp wc.heap.size wc w3) := Lib.hid (HKE.out.grown hgrow1 HKE.out.size (fun g hg => (HE.out.lt g hg).1))
          have HO1 : Hid (w3.ownsRow wc.heap.size 25 3 v1 j (flat qs)) := Lib.hid (by simpa using hown1)
          clear hown1 hgrow1 HE HKE
          go_wp2_with fail
          refine (HV _).out.mono ?_
          rintro e w4 ⟨rfl, hg1⟩
          replace HO1 := Lib.hid (own_kp HO1.out hg1.kp)
          replace HK1 := Lib.hid (HK1.out.trans (hg1.kp.mono HK1.out.size))
          have hsz4 := HK1.out.size
          clear hg1
          go_wp2_with (at_builtin; refine wpList_append_rd _ rfl _ _ 44 rfl wc.heap.size 25 i0 (.agg #[.int .u64 0, .int .u32 0, .int .u32 0]) 3 16 Try.underlying44 HI.out HZ0.out HZ1.out HZ2.out rfl (by decide) _ j (flat qs) rfl ?qe1 (some ⟨w4.heap.size, 0, none⟩) 1 1 (flat [(v, RV, 2)]) rfl ?qe2 (flat_one _) ?qe4 ?qe5 ?qe6 ?_)
          case qe1 => exact own_kp HO1.out ((Kp.refl _ w4).alloc (Nat.le_refl _) _)
          case qe2 => exact rd_ent w4 v RV 2 25
          case qe4 => unfold maxLen; omega
          case qe5 => omega
          case qe6 => simp; omega
          intro v2 w5 hown2 hgrow2
          have HK2 : Hid (Kp wc.heap.size wc w5) := Lib.hid ((HK1.out.alloc hsz4 _).grown hgrow2 (by simp; omega) (fun g hg => (HO1.out.lt g hg).1))
          have hown3 : w5.ownsRow wc.heap.size 25 3 v2 (j + 1) (flat (qs ++ [(v, RV, 2)])) := by rw [flat_app]; exact hown2
          obtain ⟨A2, c2, rfl, _, _, _, hrd2, _⟩ := own_form hown3
          have HI2 := Lib.hid (hrd2.ents HML.out)
          clear hown2 hown3 hgrow2 hrd2 HO1 HK1
          go_wp2_with fail
          refine (HFM _ _ _ HI2.out).out.mono ?_
          rintro e w6 ⟨rfl, hg6⟩
          have HK6 := Lib.hid (HK2.out.trans (hg6.kp.mono HK2.out.size))
          clear hg6
          go_wp2_with fail
          go_meet
          case rel => exact ⟨rfl, rfl, HK6.out⟩
        case rest =>
        obtain ⟨rfl, rfl, hk4⟩ := hcut
        replace HR := Lib.hid (HR.out.kp hk4)
        replace HKP := Lib.hid (HKP.out.trans (hk4.mono HKP.out.size))
        clear hk4 HFM HML HV
        go_wp2_with fail
        refine (HF2 _ _ _ (HR.out.ents HQL.out)).out.mono ?_
        rintro e w7 ⟨rfl, hg7⟩
        replace HKP := Lib.hid (HKP.out.trans (hg7.kp.mono HKP.out.size))
        clear hg7 HF2
        rcases HCASE.out with ⟨h, rfl⟩ | ⟨h, rfl⟩
        · go_wp2_with fail
          all_goals
            go_ret
            exact ⟨by first | rfl | (simp; done), HKP.out⟩
        · go_wp2_with fail
          all_goals
            go_ret
            exact ⟨by first | rfl | (simp; done), HKP.out⟩
theorem law7 {W : World} (f : Int) (wf : (Lit.int .u64 f).wf = true) (B : Option Addr) (lb cb : Nat) (zs : List Int) (_ : zs.length = lb) (hcb : lb ≤ cb) (hmb : (cb : Int) ≤ 9223372036854775807) (_ : B = none → cb = 0) (hiB : IsInts W .u64 B lb zs) (hw : ∀ n ∈ zs, (Lit.int .u64 n).wf = true)
    (v : Int) (wv : (Lit.int .u64 v).wf = true) (g : Int) (wg : (Lit.int .u8 g).wf = true) :
    Calls Try.prog 7 #[.int .u64 f, .slice B lb cb, .int .u64 v, .int .u8 g] W fun e w' => e = .returned (.bool true) ∧ Kp W.heap.size W w' := by
  have hf := bounds_u64 wf
  have hv := bounds_u64 wv
  have hg := bounds_u8 wg
  have hz : U64s zs := u64s_of (fun z hz => bounds_u64 (hw z hz))
  by_cases h : lb < 20
  · exact pf_any W B lb cb lb zs (by omega) (Or.inl rfl) hcb hmb hiB hz hf.1 hf.2 hv.1 hv.2 hg.1 hg.2
  · exact pf_any W B lb cb 20 zs (by omega) (Or.inr ⟨rfl, by omega⟩) hcb hmb hiB hz hf.1 hf.2 hv.1 hv.2 hg.1 hg.2
end Go.Proofs.Ytmlapjaccmoleaa
