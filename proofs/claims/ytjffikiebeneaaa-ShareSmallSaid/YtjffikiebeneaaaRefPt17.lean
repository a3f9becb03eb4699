/-
  The contract of the reference's Parts.
-/
import Derived.Test.YtjffikiebeneaaaParts17
namespace Go.Proofs.Ytjffikiebeneaaa
open Go.RowKit

set_option maxRecDepth 100000 in
set_option maxHeartbeats 2000000 in
theorem refParts_any (W : World) (A : Option Addr) (len cap : Nat) (zs : List Int) (hlen : zs.length = len) (hmax : (len : Int) ≤ 3000000000000000000) (hc : IsInts W .i64 A len zs) :
    Calls Try.prog 33 #[.slice A len cap] W (PartPost W 67 zs) := by
  by_cases h1 : 65536 < len
  · have HR := Lib.hid (partE_many (zs := zs) (by omega))
    have h2 : (65536 : Int) < len := by omega
    clear hc hlen h1
    go_enter Try.func33, Try.ntmps33
    go_wp2_with fail
    go_ret2
    exact PartPost.nil HR.out (Kp.refl _ _)
  · have h2 : ¬ (65536 : Int) < len := by omega
    have HC := Lib.hid hc
    have HL := Lib.hid hlen
    clear hc
    cases hb : zs.all wOk with
    | false =>
      have HR := Lib.hid (partE_bad (zs := zs) (by omega) hb)
      obtain ⟨m, hm, hbm, hgm⟩ := first_not 0 wOk zs hb
      rw [hlen] at hm
      have HB := Lib.hid (show zs.getD m 0 < 1 ∨ (1 ≤ zs.getD m 0 ∧ 65536 < zs.getD m 0) by
        have h := of_decide_eq_false hbm
        omega)
      have HOK := Lib.hid (show ∀ i, i < m → 1 ≤ zs.getD i 0 ∧ zs.getD i 0 ≤ 65536 from fun i hi => of_decide_eq_true (hgm i hi))
      have HS := Lib.hid (show ∀ i, i < m → 0 ≤ sumI (zs.take i) ∧ sumI (zs.take i) ≤ 65536 * 65536 by
        intro i hi
        have ht : (zs.take i).all wOk = true := by
          refine List.all_eq_true.2 fun x hx => ?_
          obtain ⟨q, hq, hx2⟩ := List.getElem_of_mem hx
          have h := hgm q (by rw [List.length_take] at hq; omega)
          rw [List.getElem_take] at hx2
          rw [List.getD_eq_getElem?_getD, List.getElem?_eq_getElem (by rw [List.length_take] at hq; omega)] at h
          rw [← hx2]
          exact h
        have h := sumI_bd _ ht
        have h4 : (zs.take i).length ≤ 65536 := by rw [List.length_take]; omega
        omega)
      have HN := Lib.hid (show ∀ i, i < m → sumI (zs.take (i + 1)) = sumI (zs.take i) + zs.getD i 0 from fun i hi => sumI_take_succ zs i (by omega))
      clear hb hbm hgm hlen
      go_enter Try.func33, Try.ntmps33
      go_wp2_with fail
      go_loopw [4, 5] (fun s i wr => ∃ j : Nat, j ≤ m ∧ i = .int .i64 j ∧ s = .int .i64 (sumI (zs.take j)) ∧ W = wr) (fun _ i _ => len - (intOf i).toNat)
      case atStart => exact ⟨0, Nat.zero_le _, rfl, rfl, by first | rfl | trivial⟩
      case round =>
        obtain ⟨j, hj, rfl, rfl, rfl⟩ := hrel
        by_cases hlt : j < m
        · obtain ⟨b, off, rfl, hb, c0⟩ := HC.out j (by omega)
          have hw := HOK.out j hlt
          have hs := HS.out j hlt
          have hn := HN.out j hlt
          generalize zs.getD j 0 = z at *
          generalize sumI (zs.take j) = s at *
          have hji : (j : Int) < len := by omega
          obtain ⟨hw0, hw1⟩ := hw
          obtain ⟨hs0, hs1⟩ := hs
          have HNN := Lib.hid hn
          clear hn
          go_wp2_with fail
          go_roundw
          case rel => exact ⟨j + 1, by omega, by go_num, by rw [HNN.out], by first | rfl | trivial⟩
          case measure => simp [intOf]; omega
        · have hje : j = m := by omega
          subst hje
          obtain ⟨b, off, rfl, hb, c0⟩ := HC.out j (by omega)
          have hw := HB.out
          generalize zs.getD j 0 = z at *
          generalize sumI (zs.take j) = s at *
          have hji : (j : Int) < len := by omega
          rcases hw with hw | hw
          all_goals
            go_wp2_with fail
            go_ret2
            exact PartPost.nil HR.out (Kp.refl _ _)
    | true =>
      have HOK := Lib.hid (show ∀ i, i < len → 1 ≤ zs.getD i 0 ∧ zs.getD i 0 ≤ 65536 from fun i hi => by have := sumI_le zs hb i (by omega); omega)
      have HS := Lib.hid (show ∀ i, i < len → 0 ≤ sumI (zs.take i) ∧ sumI (zs.take i) ≤ 65536 * 65536 by
        intro i hi
        have h := sumI_bd _ (all_take hb i)
        have h4 : (zs.take i).length ≤ 65536 := by rw [List.length_take]; omega
        omega)
      have HN := Lib.hid (show ∀ i, i < len → sumI (zs.take (i + 1)) = sumI (zs.take i) + zs.getD i 0 from fun i hi => sumI_take_succ zs i (by omega))
      obtain ⟨i0, hi, hz0, hz1, hz2⟩ := info_parts refshr_info
      have HI := Lib.hid hi
      have HZ0 := Lib.hid hz0
      have HZ1 := Lib.hid hz1
      have HZ2 := Lib.hid hz2
      have hSb : 0 ≤ sumI zs ∧ sumI zs ≤ 65536 * 65536 := by
        have h := sumI_bd zs hb
        omega
      obtain ⟨hS0, hS9⟩ := hSb
      have HZ := Lib.hid (show ∀ i, i < len → 1 ≤ zs.getD i 0 ∧ zs.getD i 0 ≤ 65536 ∧ 0 < sumI zs from fun i hi => by have := sumI_le zs hb i (by omega); omega)
      clear hi hz0 hz1 hz2
      cases hf : zs.all (fun w => ofE w (sumI zs) == 0) with
      | true =>
        have HR := Lib.hid (partE_ok (zs := zs) (by omega) hb hf)
        have HE := Lib.hid (show ∀ i, i < len → ofE (zs.getD i 0) (sumI zs) = 0 from fun i hi => by simpa using all_at 0 hf (by omega))
        obtain ⟨S, hS⟩ : ∃ S, S = sumI zs := ⟨_, rfl⟩
        rw [← hS] at hS0 hS9 HZ HE
        have HSS := Lib.hid hS.symm
        clear hb hf hlen hS
        go_enter Try.func33, Try.ntmps33
        go_wp2_with fail
        go_loopw [4, 5] (fun s i wr => ∃ j : Nat, j ≤ len ∧ i = .int .i64 j ∧ s = .int .i64 (sumI (zs.take j)) ∧ W = wr) (fun _ i _ => len - (intOf i).toNat)
        case atStart => exact ⟨0, Nat.zero_le _, rfl, rfl, by first | rfl | trivial⟩
        case round =>
          obtain ⟨j, hj, rfl, rfl, rfl⟩ := hrel
          by_cases hlt : j < len
          · obtain ⟨b, off, rfl, hb, c0⟩ := HC.out j (by omega)
            have hw := HOK.out j hlt
            have hs := HS.out j hlt
            have hn := HN.out j hlt
            generalize zs.getD j 0 = z at *
            generalize sumI (zs.take j) = s at *
            have hji : (j : Int) < len := by omega
            obtain ⟨hw0, hw1⟩ := hw
            obtain ⟨hs0, hs1⟩ := hs
            have HNN := Lib.hid hn
            clear hn
            go_wp2_with fail
            go_roundw
            case rel => exact ⟨j + 1, by omega, by go_num, by rw [HNN.out], by first | rfl | trivial⟩
            case measure => simp [intOf]; omega
          · have hje : j = len := by omega
            subst hje
            have hno : ¬ (j : Int) < j := by omega
            have hST : sumI (zs.take j) = S := by rw [← HL.out, List.take_length, HSS.out]
            rw [hST]
            clear HS HN HOK hST hlt hj
            go_wp2_with fail
            go_loopw [6, 7] (fun o i wr => ∃ k : Nat, k ≤ j ∧ i = .int .i64 k ∧ wr.ownsRow W.heap.size 67 2 o k (flat ((zs.take k).map fun w => of2 (w, S))) ∧ Kp W.heap.size W wr) (fun _ i _ => j - (intOf i).toNat)
            case atStart => exact ⟨0, Nat.zero_le _, rfl, World.ownsRow_nil _ _ _ _, Kp.refl _ _⟩
            case round =>
              obtain ⟨k, hk, rfl, hown, hkp⟩ := hrel
              by_cases hlt : k < j
              · obtain ⟨b, off, rfl, hb, c0⟩ := HC.out k (by omega)
                replace c0 := (hkp.cell (p := ⟨b, off + k, none⟩) hb).trans c0
                have hS1 := take_snocI zs k (by have := HL.out; omega)
                have hz := HZ.out k (by have := HL.out; omega)
                have hE0 := HE.out k hlt
                generalize zs.getD k 0 = z at *
                have hE2 : flat ((zs.take (k + 1)).map fun w => of2 (w, S)) = flat ((zs.take k).map fun w => of2 (w, S)) ++ flat [(ofN z S, ofD z S)] := by
                  rw [hS1, List.map_append, flat_app]
                  rfl
                have H' := fun W => refOf_any (n := z) (d := S) W (by omega) (by omega)
                rw [hE0] at H'
                generalize ofN z S = zn at *
                generalize ofD z S = zd at *
                have H := fun W => Lib.hid (H' W)
                have HS := Lib.hid hE2
                have HK := Lib.hid hkp
                have HO := Lib.hid hown
                have hji : (k : Int) < j := by omega
                have hsz := hkp.size
                clear hS1 hE0 hE2 hkp hown H'
                go_wp2_with fail
                refine (H _).out.mono ?_
                rintro e w1 ⟨rfl, hg1⟩
                have HO1 := Lib.hid (own_kp HO.out hg1.kp)
                have HK1 := Lib.hid (HK.out.trans (hg1.kp.mono hsz))
                clear H hg1 c0 HO HK hsz
                have hsz1 := HK1.out.size
                go_wp2_with (at_builtin; refine wpList_append_rd _ rfl _ _ 64 rfl W.heap.size 67 i0 (.agg #[.int .i64 0, .int .i64 0]) 2 16 Try.underlying64 HI.out HZ0.out HZ1.out HZ2.out rfl (by decide) _ k (flat ((zs.take k).map fun w => of2 (w, S))) rfl ?qc1 (some ⟨w1.heap.size + 1, 0, none⟩) 1 1 (flat [(zn, zd)]) rfl ?qc2 (flat_one [(zn, zd)]) ?qc4 ?qc5 ?qc6 ?_)
                case qc1 => exact own_kp HO1.out (((Kp.refl _ w1).alloc (Nat.le_refl _) _).alloc (by simp) _)
                case qc2 => simpa using rd_pair (w1.alloc (.cells #[.int .i64 zn, .int .i64 zd] 67)) zn zd 67
                case qc4 => unfold maxLen; omega
                case qc5 => omega
                case qc6 => simp; omega
                intro v' w2 hown' hgrow
                have HO2 := Lib.hid (show w2.ownsRow W.heap.size 67 2 v' (k + 1) (flat ((zs.take (k + 1)).map fun w => of2 (w, S))) by rw [HS.out, List.map_take]; exact hown')
                have HK2 := Lib.hid (((HK1.out.alloc HK1.out.size _).alloc (by simp; omega) _).grown hgrow (by simp; omega) (fun g hg => (HO1.out.lt g hg).1))
                clear hown' hgrow HO1 HK1 hsz1
                go_wp2
                go_roundw
                case rel => exact ⟨k + 1, by omega, by go_num, HO2.out, HK2.out⟩
                case measure => simp [intOf]; omega
              · have hke : k = j := by omega
                subst hke
                have HO := Lib.hid hown
                have HK := Lib.hid hkp
                clear hown hkp hlt hk
                have hno : ¬ (k : Int) < k := by omega
                go_wp2_with fail
                go_ret2
                refine ⟨_, by rw [HR.out.1]; rfl, ?_, HK.out⟩
                have h := HO.out
                rw [← HL.out, List.take_length] at h
                rw [HR.out.2]
                unfold parts
                rw [HSS.out, List.length_map]
                exact h
      | false =>
        have HR := Lib.hid (partE_long (zs := zs) (by omega) hb hf)
        obtain ⟨m, hm, hbm, hgm⟩ := first_not 0 _ zs hf
        rw [hlen] at hm
        have HE := Lib.hid (show ∀ i, i < m → ofE (zs.getD i 0) (sumI zs) = 0 from fun i hi => by simpa using hgm i hi)
        have HB := Lib.hid (show ofE (zs.getD m 0) (sumI zs) = 3 ∧ ofN (zs.getD m 0) (sumI zs) = 0 ∧ ofD (zs.getD m 0) (sumI zs) = 0 by
          have h := sumI_le zs hb m (by omega)
          exact ofE_three (by omega) (by omega) (by simpa using hbm))
        obtain ⟨S, hS⟩ : ∃ S, S = sumI zs := ⟨_, rfl⟩
        rw [← hS] at hS0 hS9 HZ HE HB
        have HSS := Lib.hid hS.symm
        clear hb hf hlen hS hbm hgm
        go_enter Try.func33, Try.ntmps33
        go_wp2_with fail
        go_loopw [4, 5] (fun s i wr => ∃ j : Nat, j ≤ len ∧ i = .int .i64 j ∧ s = .int .i64 (sumI (zs.take j)) ∧ W = wr) (fun _ i _ => len - (intOf i).toNat)
        case atStart => exact ⟨0, Nat.zero_le _, rfl, rfl, by first | rfl | trivial⟩
        case round =>
          obtain ⟨j, hj, rfl, rfl, rfl⟩ := hrel
          by_cases hlt : j < len
          · obtain ⟨b, off, rfl, hb, c0⟩ := HC.out j (by omega)
            have hw := HOK.out j hlt
            have hs := HS.out j hlt
            have hn := HN.out j hlt
            generalize zs.getD j 0 = z at *
            generalize sumI (zs.take j) = s at *
            have hji : (j : Int) < len := by omega
            obtain ⟨hw0, hw1⟩ := hw
            obtain ⟨hs0, hs1⟩ := hs
            have HNN := Lib.hid hn
            clear hn
            go_wp2_with fail
            go_roundw
            case rel => exact ⟨j + 1, by omega, by go_num, by rw [HNN.out], by first | rfl | trivial⟩
            case measure => simp [intOf]; omega
          · have hje : j = len := by omega
            subst hje
            have hno : ¬ (j : Int) < j := by omega
            have hST : sumI (zs.take j) = S := by rw [← HL.out, List.take_length, HSS.out]
            rw [hST]
            clear HS HN HOK hST hlt hj
            go_wp2_with fail
            go_loopw [6, 7] (fun o i wr => ∃ k : Nat, k ≤ m ∧ i = .int .i64 k ∧ wr.ownsRow W.heap.size 67 2 o k (flat ((zs.take k).map fun w => of2 (w, S))) ∧ Kp W.heap.size W wr) (fun _ i _ => j - (intOf i).toNat)
            case atStart => exact ⟨0, Nat.zero_le _, rfl, World.ownsRow_nil _ _ _ _, Kp.refl _ _⟩
            case round =>
              obtain ⟨k, hk, rfl, hown, hkp⟩ := hrel
              by_cases hlt : k < m
              · obtain ⟨b, off, rfl, hb, c0⟩ := HC.out k (by omega)
                replace c0 := (hkp.cell (p := ⟨b, off + k, none⟩) hb).trans c0
                have hS1 := take_snocI zs k (by have := HL.out; omega)
                have hz := HZ.out k (by have := HL.out; omega)
                have hE0 := HE.out k hlt
                generalize zs.getD k 0 = z at *
                have hE2 : flat ((zs.take (k + 1)).map fun w => of2 (w, S)) = flat ((zs.take k).map fun w => of2 (w, S)) ++ flat [(ofN z S, ofD z S)] := by
                  rw [hS1, List.map_append, flat_app]
                  rfl
                have H' := fun W => refOf_any (n := z) (d := S) W (by omega) (by omega)
                rw [hE0] at H'
                generalize ofN z S = zn at *
                generalize ofD z S = zd at *
                have H := fun W => Lib.hid (H' W)
                have HS := Lib.hid hE2
                have HK := Lib.hid hkp
                have HO := Lib.hid hown
                have hji : (k : Int) < j := by omega
                have hsz := hkp.size
                clear hS1 hE0 hE2 hkp hown H'
                go_wp2_with fail
                refine (H _).out.mono ?_
                rintro e w1 ⟨rfl, hg1⟩
                have HO1 := Lib.hid (own_kp HO.out hg1.kp)
                have HK1 := Lib.hid (HK.out.trans (hg1.kp.mono hsz))
                clear H hg1 c0 HO HK hsz
                have hsz1 := HK1.out.size
                go_wp2_with (at_builtin; refine wpList_append_rd _ rfl _ _ 64 rfl W.heap.size 67 i0 (.agg #[.int .i64 0, .int .i64 0]) 2 16 Try.underlying64 HI.out HZ0.out HZ1.out HZ2.out rfl (by decide) _ k (flat ((zs.take k).map fun w => of2 (w, S))) rfl ?qc1 (some ⟨w1.heap.size + 1, 0, none⟩) 1 1 (flat [(zn, zd)]) rfl ?qc2 (flat_one [(zn, zd)]) ?qc4 ?qc5 ?qc6 ?_)
                case qc1 => exact own_kp HO1.out (((Kp.refl _ w1).alloc (Nat.le_refl _) _).alloc (by simp) _)
                case qc2 => simpa using rd_pair (w1.alloc (.cells #[.int .i64 zn, .int .i64 zd] 67)) zn zd 67
                case qc4 => unfold maxLen; omega
                case qc5 => omega
                case qc6 => simp; omega
                intro v' w2 hown' hgrow
                have HO2 := Lib.hid (show w2.ownsRow W.heap.size 67 2 v' (k + 1) (flat ((zs.take (k + 1)).map fun w => of2 (w, S))) by rw [HS.out, List.map_take]; exact hown')
                have HK2 := Lib.hid (((HK1.out.alloc HK1.out.size _).alloc (by simp; omega) _).grown hgrow (by simp; omega) (fun g hg => (HO1.out.lt g hg).1))
                clear hown' hgrow HO1 HK1 hsz1
                go_wp2
                go_roundw
                case rel => exact ⟨k + 1, by omega, by go_num, HO2.out, HK2.out⟩
                case measure => simp [intOf]; omega
              · have hke : k = m := by omega
                subst hke
                obtain ⟨b, off, rfl, hb, c0⟩ := HC.out k (by omega)
                replace c0 := (hkp.cell (p := ⟨b, off + k, none⟩) hb).trans c0
                have hz := HZ.out k (by have := HL.out; omega)
                obtain ⟨f1, f2, f3⟩ := HB.out
                generalize zs.getD k 0 = z at *
                have H' := fun W => refOf_any (n := z) (d := S) W (by omega) (by omega)
                rw [f1, f2, f3] at H'
                have H := fun W => Lib.hid (H' W)
                have HK := Lib.hid hkp
                have hji : (k : Int) < j := by omega
                have hsz := hkp.size
                clear hkp hown H' f1 f2 f3
                go_wp2_with fail
                refine (H _).out.mono ?_
                rintro e w1 ⟨rfl, hg1⟩
                have HK1 := Lib.hid (HK.out.trans (hg1.kp.mono hsz))
                have hsz1 := HK1.out.size
                clear H hg1 c0 HK hsz
                go_wp2_with fail
                go_ret2
                exact PartPost.nil HR.out (HK1.out.alloc hsz1 _)
end Go.Proofs.Ytjffikiebeneaaa
