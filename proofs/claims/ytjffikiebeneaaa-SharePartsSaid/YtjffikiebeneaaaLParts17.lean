/-
  The law ShareParts, walked.
-/
import Derived.Test.YtjffikiebeneaaaLPartsR17
import Derived.Deep.CutRange
namespace Go.Proofs.Ytjffikiebeneaaa
open Go.RowKit

theorem IsInts.take {w : World} {k : IntKind} {A : Option Addr} {n m : Nat} {zs : List Int} (h : IsInts w k A n zs) (hm : m ≤ n) : IsInts w k A m (zs.take m) := by
  intro i hi
  obtain ⟨b, off, h1, h2, h3⟩ := h i (by omega)
  exact ⟨b, off, h1, h2, by rw [getD_take zs m i hi]; exact h3⟩
theorem IsPrs.take {w : World} {A : Option Addr} {n m : Nat} {es : List P2} (h : IsPrs w A n es) (hm : m ≤ n) : IsPrs w A m (es.take m) := by
  intro i hi
  obtain ⟨b, off, h1, h2, h3, h4⟩ := h i (by omega)
  have e : (es.take m).getD i p0 = es.getD i p0 := by
    rw [List.getD_eq_getElem?_getD, List.getD_eq_getElem?_getD, List.getElem?_take, if_pos hi]
  exact ⟨b, off, h1, h2, by rw [e]; exact h3, by rw [e]; exact h4⟩
theorem IsPrs.ats {w : World} {b off n : Nat} {es : List P2} (h : IsPrs w (some ⟨b, off, none⟩) n es) {i : Nat} (hi : i < n) : At w ⟨b, off + i * 2, none⟩ (.int .i64 (es.getD i p0).1) ∧ At w ⟨b, off + i * 2 + 1, none⟩ (.int .i64 (es.getD i p0).2) := by
  obtain ⟨b', off', e, h2, h3, h4⟩ := h i hi
  cases e
  exact ⟨⟨h3, h2⟩, ⟨h4, h2⟩⟩
theorem IsInts.ats {w : World} {b off n : Nat} {zs : List Int} (h : IsInts w .i64 (some ⟨b, off, none⟩) n zs) {i : Nat} (hi : i < n) : At w ⟨b, off + i, none⟩ (.int .i64 (zs.getD i 0)) := by
  obtain ⟨b', off', e, h2, h3⟩ := h i hi
  cases e
  exact ⟨h3, h2⟩

set_option maxRecDepth 100000 in
set_option maxHeartbeats 4000000 in
theorem parts_walk {W0 : World} (A : Option Addr) (len cap : Nat) (l : List Int) (hl : l.length = len) (hc : len ≤ cap) (hm : (cap : Int) ≤ 9223372036854775807) (hi : IsInts W0 .u8 A len l) (hw : ∀ n ∈ l, (Lit.int .u8 n).wf = true) (a : Int) (a0 : 0 ≤ a) (a1 : a ≤ 255)
    (M : Nat) (hM : (wgt l).length = M) (hM0 : 0 < M) (hM1 : M ≤ 12) :
    Calls Try.prog 7 #[.slice A len cap, .int .u8 a] W0 fun e w' => e = .returned (.bool true) ∧ Kp W0.heap.size W0 w' := by
  have HAw := fun w => Lib.hid (awake_any w)
  have HW := fun w (k : Kp W0.heap.size W0 w) => Lib.hid (weights_any w A len cap l hl hc hm (hi.below k) hw)
  rw [hM] at HW
  have hbd : ∀ w ∈ wgt l, 1 ≤ w ∧ w ≤ 200 := fun w h => wgt_bd h
  generalize wgt l = ws at *
  obtain ⟨T, hT⟩ : ∃ T, T = sumI ws := ⟨_, rfl⟩
  have hsum := sum_le ws hbd
  rw [hM, ← hT] at hsum
  have hT0 : 0 < T := by omega
  have hT1 : T ≤ 2400 := by omega
  have hok := parts_ok hbd (by omega)
  have hpl : (parts ws).length = M := by unfold parts; rw [List.length_map]; exact hM
  have HP := fun w A c (h : IsInts w .i64 A M ws) => Lib.hid (parts_good w A c M ws (parts ws) hM hok.2 hok.1 hpl (by omega) h)
  have hsp := sum_parts hT0 hT1 (by decide) ws (fun w h => by have := hbd w h; omega) (by omega)
  have hpm : parts ws = ws.map fun w => of2 (w, T) := by unfold parts; rw [hT]
  have h1 := of_one hT0
  rw [← hpm, ← hT, h1.1, h1.2.1] at hsp
  have HS := fun w A c (h : IsPrs w A M (parts ws)) => Lib.hid (show Calls Try.prog 24 #[.slice A M c] w fun e w' => e = .returned (.tuple #[shr 1 1, .int .i64 0]) ∧ GrewS w w' from by
    have h := sum_any w A M c (parts ws) hpl (by omega) h
    rw [hsp] at h
    exact h)
  have HB := Lib.hid (show ∀ i, i < M → 1 ≤ ws.getD i 0 ∧ ws.getD i 0 ≤ 200 from fun i h => hbd _ (mem_getD (by omega)))
  have HG := Lib.hid (show ∀ i, i < M → (parts ws).getD i p0 = (ofN (ws.getD i 0) T, ofD (ws.getD i 0) T) from fun i h => by rw [parts_get ws i (by omega), hT])
  obtain ⟨q, hq⟩ : ∃ q, q = a % (M : Int) := ⟨_, rfl⟩
  have q0 : 0 ≤ q := by rw [hq]; exact Int.emod_nonneg a (by omega)
  have q1 : q < M := by rw [hq]; exact Int.emod_lt_of_pos a (by omega)
  obtain ⟨K, hK⟩ : ∃ K : Nat, 1 + q = (K : Int) := ⟨(1 + q).toNat, by omega⟩
  have hK0 : 0 < K := by omega
  have hK1 : K ≤ M := by omega
  have r1 : Int.tmod a M = q := by rw [Int.tmod_eq_emod_of_nonneg a0, hq]
  have r2 : a % (M : Int) = q := hq.symm
  -- the first K of them
  have hbk : ∀ w ∈ ws.take K, 1 ≤ w ∧ w ≤ 200 := fun w h => hbd w (mem_take h)
  have hLk : (ws.take K).length = K := by rw [List.length_take]; omega
  obtain ⟨V, hV⟩ : ∃ V, V = sumI (ws.take K) := ⟨_, rfl⟩
  have hsumk := sum_le (ws.take K) hbk
  rw [hLk, ← hV] at hsumk
  have hV0 : 0 < V := by omega
  have hV1 : V ≤ 2400 := by omega
  have hokk := parts_ok hbk (by omega)
  have hplk : (parts (ws.take K)).length = K := by unfold parts; rw [List.length_map]; exact hLk
  have HPk := fun w A c (h : IsInts w .i64 A K (ws.take K)) => Lib.hid (parts_good w A c K (ws.take K) (parts (ws.take K)) hLk hokk.2 hokk.1 hplk (by omega) h)
  have hspk := sum_parts hT0 hT1 (by decide) (ws.take K) (fun w h => by have := hbk w h; omega) (by omega)
  have hpmk : (parts ws).take K = (ws.take K).map fun w => of2 (w, T) := by rw [hpm, List.map_take]
  rw [← hpmk, ← hV] at hspk
  have HSk := fun w A c (h : IsPrs w A K ((parts ws).take K)) => Lib.hid (show Calls Try.prog 24 #[.slice A K c] w fun e w' => e = .returned (.tuple #[shr (ofN V T) (ofD V T), .int .i64 0]) ∧ GrewS w w' from by
    have h := sum_any w A K c ((parts ws).take K) (by rw [List.length_take]; omega) (by omega) h
    rw [hspk] at h
    exact h)
  have HGk := Lib.hid (show ∀ i, i < K → (parts (ws.take K)).getD i p0 = (ofN (ws.getD i 0) V, ofD (ws.getD i 0) V) from fun i h => by rw [parts_get (ws.take K) i (by omega), hV, getD_take ws K i h])
  have HX := Lib.hid (show ∀ i, i < K → tmN (ofN (ws.getD i 0) V) (ofD (ws.getD i 0) V) (ofN V T) (ofD V T) = ofN (ws.getD i 0) T ∧ tmD (ofN (ws.getD i 0) V) (ofD (ws.getD i 0) V) (ofN V T) (ofD V T) = ofD (ws.getD i 0) T ∧ tmE (ofN (ws.getD i 0) V) (ofD (ws.getD i 0) V) (ofN V T) (ofD V T) = 0 from fun i h => by
    have hb := hbd _ (mem_getD (l := ws) (i := i) (by omega))
    exact parts_times (m := 2400) (by omega) hV0 hT0 (by omega) hV1 hT1 (by decide) (by decide))
  have HO := Lib.hid (show ∀ i k, i < M → k < M → ovN (ofN (ws.getD i 0) T) (ofD (ws.getD i 0) T) (ofN (ws.getD k 0) T) (ofD (ws.getD k 0) T) = ofN (ws.getD i 0) (ws.getD k 0) ∧ ovD (ofN (ws.getD i 0) T) (ofD (ws.getD i 0) T) (ofN (ws.getD k 0) T) (ofD (ws.getD k 0) T) = ofD (ws.getD i 0) (ws.getD k 0) ∧ ovE (ofN (ws.getD i 0) T) (ofD (ws.getD i 0) T) (ofN (ws.getD k 0) T) (ofD (ws.getD k 0) T) = 0 ∧ ofE (ws.getD i 0) (ws.getD k 0) = 0 ∧
      ∃ n, (cmN (ofN (ws.getD i 0) T) (ofD (ws.getD i 0) T) (ofN (ws.getD k 0) T) (ofD (ws.getD k 0) T) = n ∧ cmE (ofN (ws.getD i 0) T) (ofD (ws.getD i 0) T) (ofN (ws.getD k 0) T) (ofD (ws.getD k 0) T) = 0) ∧
        ((n = -1 ∧ ws.getD i 0 < ws.getD k 0) ∨ (n = 0 ∧ ws.getD i 0 = ws.getD k 0) ∨ (n = 1 ∧ ws.getD k 0 < ws.getD i 0)) from fun i k h1 h2 => by
    have b1 := hbd _ (mem_getD (l := ws) (i := i) (by omega))
    have b2 := hbd _ (mem_getD (l := ws) (i := k) (by omega))
    have e1 := parts_over (u := ws.getD i 0) (w := ws.getD k 0) (m := 2400) (by omega) (by omega) hT0 (by omega) (by omega) hT1 (by decide)
    have e2 := (of_fits (n := ws.getD i 0) (d := ws.getD k 0) (by omega) (by omega) (by omega) (by omega)).1
    have s1 := (of_small (n := ws.getD i 0) (T := T) (m := 2400) (by omega) hT0 (by omega) hT1 (by decide)).2.1
    have s2 := (of_small (n := ws.getD k 0) (T := T) (m := 2400) (by omega) hT0 (by omega) hT1 (by decide)).2.1
    have e3 := cm_good s1.r s2.r
    rw [parts_cmp (by omega) (by omega) hT0 (by omega : ws.getD i 0 ≤ 2400) (by omega) hT1 (by decide)] at e3
    refine ⟨e1.1, e1.2.1, e1.2.2, e2, _, ⟨e3.2, e3.1⟩, ?_⟩
    rcases Int.lt_trichotomy (ws.getD i 0) (ws.getD k 0) with h | h | h
    · exact Or.inl ⟨sgV_neg h, h⟩
    · exact Or.inr (Or.inl ⟨by rw [h, sgV_same], h⟩)
    · exact Or.inr (Or.inr ⟨sgV_pos h, h⟩))
  generalize parts (ws.take K) = pk at *
  generalize parts ws = ps at *
  have hMi : (0 : Int) < M := by omega
  have hMe : ((M : Int) == 0) = false := beq_eq_false_iff_ne.2 (by omega)
  have hMn : (M : Int) ≠ 0 := by omega
  have hMm : (M : Int) ≤ 12 := by omega
  have hKi : (K : Int) ≤ M := by omega
  have hKz : (0 : Int) ≤ K := by omega
  clear hl hc hm hi hw hM hbd hT hsum hok hpl hsp hpm h1 hq hbk hLk hV hsumk hokk hplk hspk hpmk
  go_enter Try.func7, Try.ntmps7
  go_wp2_with fail
  (with_reducible refine (HAw _).out.mono ?_)
  rintro e w1 ⟨rfl, hk⟩
  have HK := Lib.hid hk
  clear hk HAw
  go_wp2_with fail
  refine (HW _ HK.out).out.mono ?_
  rintro e w2 ⟨v, rfl, hown, hk1⟩
  obtain ⟨A1, c1, rfl, hc1, hc2, _, hrd, _⟩ := own_form hown
  have HA := Lib.hid (hrd.isInts.2)
  replace HK := Lib.hid (HK.out.trans (hk1.mono HK.out.size))
  have hc3 : (M : Int) ≤ c1 := by omega
  clear hown hrd hk1 HW
  go_wp2_with fail
  refine (HP _ _ _ HA.out).out.mono ?_
  rintro e w3 ⟨B1, c2, rfl, hpr, ⟨hd1, hd2⟩, _, hk1⟩
  have HPr := Lib.hid hpr
  replace HA := Lib.hid (HA.out.below (hk1.mono (Nat.le_refl _)))
  replace HK := Lib.hid (HK.out.trans (hk1.mono HK.out.size))
  obtain ⟨ga, oa, rfl, _⟩ := HA.out 0 hM0
  obtain ⟨gp, op, rfl, _⟩ := HPr.out 0 hM0
  clear hpr hk1 HP
  go_wp2_with fail
  refine (HS _ _ _ HPr.out).out.mono ?_
  rintro e w4 ⟨rfl, hg1⟩
  have ka : Kp w3.heap.size w3 (w4.alloc (.cells #[.int .i64 1, .int .i64 1] 25)) := (hg1.kp).alloc hg1.kp.size _
  replace HA := Lib.hid (HA.out.below ka)
  replace HPr := Lib.hid (HPr.out.kp ka)
  replace HK := Lib.hid (HK.out.trans (ka.mono HK.out.size))
  clear hg1 ka HS
  go_wp2_with fail
  generalize w4.alloc (.cells #[.int .i64 1, .int .i64 1] 25) = V1 at *
  go_loopw [60] (fun i wr => ∃ k : Nat, k ≤ M ∧ i = .int .i64 k ∧ GrewS V1 wr) (fun i _ => M - (intOf i).toNat)
  case atStart => exact ⟨0, Nat.zero_le _, rfl, GrewS.refl _⟩
  case round =>
    obtain ⟨i, hi, rfl, hg⟩ := hrel
    by_cases hlt : i < M
    · have hii : (i : Int) < M := by omega
      have hgi := Lib.hid hg
      clear hg
      go_wp2_with fail
      go_loopw [65] (fun i wr => ∃ k : Nat, k ≤ M ∧ i = .int .i64 k ∧ GrewS V1 wr) (fun i _ => M - (intOf i).toNat)
      case atStart => exact ⟨0, Nat.zero_le _, rfl, hgi.out⟩
      case round =>
        obtain ⟨k, hk, rfl, hg⟩ := hrel
        clear hgi
        by_cases hltk : k < M
        · have hkk : (k : Int) < M := by omega
          obtain ⟨o1, o2, o3, o4, n, o5, o6⟩ := HO.out i k hlt hltk
          have hb1 := (HB.out i hlt).2
          have hb2 := (HB.out k hltk).2
          have P1 := (HPr.out.kp hg.kp).ats hlt
          have P2 := (HPr.out.kp hg.kp).ats hltk
          rw [HG.out i hlt] at P1
          rw [HG.out k hltk] at P2
          have hg0 := Lib.hid hg
          replace o1 := Lib.hid (And.intro o1 (And.intro o2 o3))
          replace o4 := Lib.hid o4
          replace o5 := Lib.hid o5
          replace o6 := Lib.hid o6
          clear hg o2 o3
          go_upto_region 18 with fail
          refine parts_r18 (GrewS.refl _) hlt hltk (by omega) o1.out P1.1 P1.2 P2.1 P2.2 ?_
          rintro u11 u68 u69 u70 u71 u72 u73 u74 u75 u76 u77 u78 u79 y1 ⟨⟨bQ, rfl, Q1⟩, g1⟩
          have hg1 := Lib.hid (hg0.out.trans g1)
          replace P1 := And.intro (P1.1.kp g1.kp) (P1.2.kp g1.kp)
          replace P2 := And.intro (P2.1.kp g1.kp) (P2.2.kp g1.kp)
          clear g1 hg0
          go_upto_region 19 with fail
          refine parts_r19 (GrewS.refl _) hlt hltk (by omega) hb1 hb2 ⟨rfl, rfl, o4.out⟩ ((HA.out.below hg1.out.kp).ats hlt) ((HA.out.below hg1.out.kp).ats hltk) ?_
          rintro u13 u80 u81 u82 u83 u84 u85 u86 u87 u88 u89 u90 u91 y2 ⟨⟨bR, rfl, Q2⟩, g1⟩
          have hg2 := Lib.hid (hg1.out.trans g1)
          replace P1 := And.intro (P1.1.kp g1.kp) (P1.2.kp g1.kp)
          replace P2 := And.intro (P2.1.kp g1.kp) (P2.2.kp g1.kp)
          replace Q1 := Q1.kp g1.kp
          clear g1 hg1
          go_upto_region 20 with fail
          refine parts_r20 (GrewS.refl _) hlt hltk (by omega) o5.out P1.1 P1.2 P2.1 P2.2 ?_
          rintro u92 u93 u94 u95 u96 u97 u98 u99 u100 u101 u102 u103 y3 g1
          have hg3 := Lib.hid (hg2.out.trans g1)
          replace Q1 := Q1.kp g1.kp
          replace Q2 := Q2.kp g1.kp
          clear g1 hg2 P1 P2
          go_upto_region 21 with fail
          refine parts_r21 (GrewS.refl _) hlt hltk (by omega) o6.out ((HA.out.below hg3.out.kp).ats hlt) ((HA.out.below hg3.out.kp).ats hltk) Q1 Q2 ?_
          rintro u104 u105 u106 u107 u108 u109 u110 u111 u112 u113 u114 u115 u116 u117 u118 u119 u120 u121 u122 u123 u124 u125 u126 u127 u128 u129 u130 u131 u132 u133 u134 u135 u136 u137 u138 u139 u140 u141 y4 g1
          have hg4 := Lib.hid (hg3.out.trans g1)
          clear g1 hg3 Q1 Q2 o1 o4 o5 o6
          go_wp2_with fail
          go_roundw
          case rel => exact ⟨k + 1, by omega, by go_num, hg4.out⟩
          case measure => simp [intOf]; omega
        · have hke : k = M := by omega
          have hno : ¬ (k : Int) < M := by omega
          have hg0 := Lib.hid hg
          clear hg
          go_wp2_with fail
          go_roundw
          case rel => exact ⟨i + 1, by omega, by go_num, hg0.out⟩
          case measure => simp [intOf]; omega
    · have hno : ¬ (i : Int) < M := by omega
      replace HA := Lib.hid (HA.out.below hg.kp)
      replace HPr := Lib.hid (HPr.out.kp hg.kp)
      replace HK := Lib.hid (HK.out.trans (hg.kp.mono HK.out.size))
      clear hg hlt hi HO
      go_wp2_with fail
      have HAk := HA.out.take hK1
      refine (HPk _ _ _ HAk).out.mono ?_
      rintro e z1 ⟨B2, c4, rfl, hpr, ⟨hd3, hd4⟩, _, hk1⟩
      have HQr := Lib.hid hpr
      replace HPr := Lib.hid (HPr.out.kp hk1)
      replace HK := Lib.hid (HK.out.trans (hk1.mono HK.out.size))
      obtain ⟨gq, oq, rfl, _⟩ := HQr.out 0 hK0
      clear hpr hk1 HPk HAk HA
      go_wp2_with fail
      have HPk2 := HPr.out.take hK1
      refine (HSk _ _ _ HPk2).out.mono ?_
      rintro e z2 ⟨rfl, hg1⟩
      have ka : Kp z1.heap.size z1 (z2.alloc (.cells #[.int .i64 (ofN V T), .int .i64 (ofD V T)] 25)) := (hg1.kp).alloc hg1.kp.size _
      replace HPr := Lib.hid (HPr.out.kp ka)
      replace HQr := Lib.hid (HQr.out.kp ka)
      replace HK := Lib.hid (HK.out.trans (ka.mono HK.out.size))
      have BV := C2.new z2 (.int .i64 (ofN V T)) (.int .i64 (ofD V T)) 25
      clear hg1 ka HSk HPk2
      go_wp2_with fail
      generalize z2.alloc (.cells #[.int .i64 (ofN V T), .int .i64 (ofD V T)] 25) = V2 at *
      generalize z2.heap.size = bV at *
      go_loopw [177] (fun i wr => ∃ k : Nat, k ≤ K ∧ i = .int .i64 k ∧ GrewS V2 wr) (fun i _ => K - (intOf i).toNat)
      case atStart => exact ⟨0, Nat.zero_le _, rfl, GrewS.refl _⟩
      case round =>
        obtain ⟨j, hj, rfl, hg⟩ := hrel
        by_cases hlt : j < K
        · have hjj : (j : Int) < K := by omega
          have P1 := (HQr.out.kp hg.kp).ats hlt
          rw [HGk.out j hlt] at P1
          have hx := Lib.hid (HX.out j hlt)
          have hg0 := Lib.hid hg
          have BV1 := BV.kp hg.kp
          clear hg
          go_upto_region 33 with fail
          refine parts_r33 (GrewS.refl _) hlt (by omega) hx.out P1.1 P1.2 BV1 ?_
          rintro u23 u180 u181 u182 u183 u184 u185 u186 u187 u188 y1 ⟨⟨bQ, rfl, Q1⟩, g1⟩
          have hg1 := Lib.hid (hg0.out.trans g1)
          have P2 := (HPr.out.kp hg1.out.kp).ats (show j < M by omega)
          rw [HG.out j (by omega)] at P2
          clear g1 hg0 P1 BV1 hx
          go_upto_region 34 with fail
          refine parts_r34 (GrewS.refl _) (show j < M by omega) (by omega) P2.1 P2.2 Q1 ?_
          rintro u189 u190 u191 u192 u193 u194 u195 u196 u197 y2 g1
          have hg2 := Lib.hid (hg1.out.trans g1)
          clear g1 hg1 P2 Q1
          go_wp2_with fail
          go_roundw
          case rel => exact ⟨j + 1, by omega, by go_num, hg2.out⟩
          case measure => simp [intOf]; omega
        · have hno2 : ¬ (j : Int) < K := by omega
          have HKF := Lib.hid (HK.out.trans (hg.kp.mono HK.out.size))
          clear hg HK
          go_wp2_with fail
          go_ret
          exact ⟨rfl, HKF.out⟩

set_option maxRecDepth 100000 in
set_option maxHeartbeats 1000000 in
theorem parts_none' {W0 : World} (A : Option Addr) (len cap : Nat) (l : List Int) (hl : l.length = len) (hc : len ≤ cap) (hm : (cap : Int) ≤ 9223372036854775807) (hi : IsInts W0 .u8 A len l) (hw : ∀ n ∈ l, (Lit.int .u8 n).wf = true) (a : Int) (hM : (wgt l).length = 0) :
    Calls Try.prog 7 #[.slice A len cap, .int .u8 a] W0 fun e w' => e = .returned (.bool true) ∧ Kp W0.heap.size W0 w' := by
  have HAw := fun w => Lib.hid (awake_any w)
  have HW := fun w (k : Kp W0.heap.size W0 w) => Lib.hid (weights_any w A len cap l hl hc hm (hi.below k) hw)
  rw [hM] at HW
  have hnil : wgt l = [] := List.eq_nil_of_length_eq_zero hM
  have HP := fun w A c (h : IsInts w .i64 A 0 []) => Lib.hid (parts_good w A c 0 [] [] rfl rfl (by kernel_rfl) rfl (by decide) h)
  clear hl hc hm hi hw hM
  go_enter Try.func7, Try.ntmps7
  go_wp2_with fail
  (with_reducible refine (HAw _).out.mono ?_)
  rintro e w1 ⟨rfl, hk⟩
  have HK := Lib.hid hk
  clear hk HAw
  go_wp2_with fail
  refine (HW _ HK.out).out.mono ?_
  rintro e w2 ⟨v, rfl, hown, hk1⟩
  obtain ⟨A1, c1, rfl, hc1, hc2, _, hrd, _⟩ := own_form hown
  replace HK := Lib.hid (HK.out.trans (hk1.mono HK.out.size))
  clear hown hrd hk1 HW
  go_wp2_with fail
  refine (HP _ _ _ (fun i hi => absurd hi (Nat.not_lt_zero i))).out.mono ?_
  rintro e w3 ⟨B1, c2, rfl, _, _, _, hk1⟩
  replace HK := Lib.hid (HK.out.trans (hk1.mono HK.out.size))
  clear hk1 HP
  go_wp2_with fail
  go_ret
  exact ⟨rfl, HK.out⟩

theorem law7 {W : World} (A : Option Addr) (len cap : Nat) (l : List Int) (hl : l.length = len) (hc : len ≤ cap) (hm : (cap : Int) ≤ 9223372036854775807) (_ : A = none → cap = 0) (hi : IsInts W .u8 A len l) (hw : ∀ n ∈ l, (Lit.int .u8 n).wf = true) (a : Int) (ha : (Lit.int .u8 a).wf = true) :
    Calls Try.prog 7 #[.slice A len cap, .int .u8 a] W fun e w' => e = .returned (.bool true) ∧ Kp W.heap.size W w' := by
  rcases Nat.eq_zero_or_pos (wgt l).length with h | h
  · exact parts_none' A len cap l hl hc hm hi hw a h
  · exact parts_walk A len cap l hl hc hm hi hw a (bounds_u8 ha).1 (bounds_u8 ha).2 _ rfl h (by rw [wgt_len]; omega)
end Go.Proofs.Ytjffikiebeneaaa
