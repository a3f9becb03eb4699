/-
  The law's own 'many', walked.
-/
import Derived.Test.YtmlapjaccmoleaaMany
namespace Go.Proofs.Ytmlapjaccmoleaa
open Go.RowKit

set_option maxRecDepth 100000 in
set_option maxHeartbeats 8000000 in
theorem many_any (W : World) (A : Option Addr) (la ca : Nat) (es : List E3) (B : Option Addr) (lb cb : Nat) (fs : List Int) (hla : es.length = la) (h20a : la ≤ 20) (hca : A = none → ca = 0 ∧ la = 0) (hcA : IsEnts W A la es) (hE : EBs es)
    (hlb : fs.length = lb) (h20b : lb ≤ 20) (hcb : B = none → cb = 0 ∧ lb = 0) (hcB : IsInts W .u64 B lb fs) (hf : U64s fs) :
    Calls Try.prog 43 #[.slice A la ca, .slice B lb cb] W fun e w' => e = .returned (.bool true) ∧ Kp W.heap.size W w' := by
  obtain ⟨i0, hi, hz0, hz1, hz2⟩ := info_parts refent_info
  have HI := Lib.hid hi
  have HZ0 := Lib.hid hz0
  have HZ1 := Lib.hid hz1
  have HZ2 := Lib.hid hz2
  obtain ⟨f, hff⟩ : ∃ f, f = if 1 < lb then fs.getD 0 0 else 0 := ⟨_, rfl⟩
  obtain ⟨t, htt⟩ : ∃ t, t = if 1 < lb then fs.getD 1 0 else 0 := ⟨_, rfl⟩
  have f0 : 0 ≤ f ∧ f ≤ 18446744073709551615 := by rw [hff]; split; exact hf 0; omega
  have t0 : 0 ≤ t ∧ t ≤ 18446744073709551615 := by rw [htt]; split; exact hf 1; omega
  have HFF := Lib.hid (And.intro hff htt)
  have H1 := fun (w : World) (k : Kp W.heap.size W w) => Lib.hid (cloneE_any w A la ca es hla hca (hcA.kp k) (by omega))
  have H2 := fun (w : World) (k : Kp W.heap.size W w) => Lib.hid (cloneU_any w B lb cb fs hlb hcb (hcB.below k) (by omega))
  have H3 := fun (w : World) (A : Option Addr) (c : Nat) (hc : IsEnts w A la es) => Lib.hid (all_any (f := f) (t := t) w A la c es hla (by omega) hc hE f0 t0)
  have H4 := fun (w : World) (A : Option Addr) (c : Nat) (hc : IsEnts w A la es) => Lib.hid (refAll_any (f := f) (t := t) w A la c es hla (by omega) hc hE f0 t0)
  have H5 := fun (w : World) (i : Nat) (h : i < la) (A : Option Addr) (c : Nat) (hc : IsInts w .u64 A lb fs) => Lib.hid (through_any w (hE.at (i := i) (by omega)) A lb c fs (by omega) hc hf)
  have H6 := fun (w : World) (i : Nat) (h : i < la) (A : Option Addr) (c : Nat) (hc : IsInts w .u64 A lb fs) => Lib.hid (refThrough_any w (hE.at (i := i) (by omega)) A lb c fs (by omega) hc hf)
  have H7 := fun (w : World) (k : Kp W.heap.size W w) (B : Option Addr) (d : Nat) (hb : IsEnts w B la es) => Lib.hid (equalE_same w B A la d ca es (by omega) hb (hcA.kp k))
  have H8 := fun (w : World) (k : Kp W.heap.size W w) (C : Option Addr) (d : Nat) (hb : IsInts w .u64 C lb fs) => Lib.hid (equalU_same w C B lb d cb fs (by omega) hb (hcB.below k))
  have hn := allXs_len f t es
  have HCA := Lib.hid hcA
  have HCB := Lib.hid hcB
  have HLA := Lib.hid hla
  have HLB := Lib.hid hlb
  obtain ⟨xs, hxs⟩ : ∃ xs, xs = allXs f t es := ⟨_, rfl⟩
  rw [← hxs] at H3 H4 hn
  rw [hla] at hn
  obtain ⟨n, hxl⟩ : ∃ n, xs.length = n := ⟨_, rfl⟩
  rw [hxl] at hn
  generalize flE es = E at *
  have HXL := Lib.hid hxl
  have hla' : (la : Int) ≤ 20 := by omega
  have hlb' : (lb : Int) ≤ 20 := by omega
  clear hi hz0 hz1 hz2 hff htt f0 t0 hla hca hcA hE hlb hcb hcB hf hxs hxl
  go_enter Try.func43, Try.ntmps43
  go_wp2_with fail
  refine (H1 _ (Kp.refl _ _)).out.mono ?_
  rintro e w1 ⟨v, rfl, hown, hk1⟩
  obtain ⟨A1, c1, rfl, _, _, _, hrd, _⟩ := own_form hown
  have HO := Lib.hid (hrd.ents HLA.out)
  have HK := Lib.hid hk1
  clear hown hrd hk1 H1
  go_wp2_with fail
  refine (H2 _ HK.out).out.mono ?_
  rintro e w2 ⟨v, rfl, hown, hk1⟩
  obtain ⟨B1, c2_, rfl, _, _, _, hrd, _⟩ := own_form hown
  have HL := Lib.hid hrd.isInts.2
  replace HO := Lib.hid (HO.out.kp hk1)
  replace HK := Lib.hid (HK.out.trans (hk1.mono HK.out.size))
  clear hown hrd hk1 H2
  go_wp2_with fail
  go_loopw [7, 28] (fun o i wr => ∃ j : Nat, j ≤ la ∧ i = .int .i64 j ∧ wr.ownsRow w2.heap.size 74 3 o j (flat (es.take j)) ∧ Kp w2.heap.size w2 wr) (fun _ i _ => la - (intOf i).toNat)
  case atStart => exact ⟨0, Nat.zero_le _, rfl, World.ownsRow_nil _ _ _ _, Kp.refl _ _⟩
  case round =>
    obtain ⟨j, hj, rfl, hown, hkp⟩ := hrel
    by_cases hlt : j < la
    · obtain ⟨b, off, rfl, _, d0, d1, d2⟩ := (HCA.out.kp (HK.out.trans (hkp.mono HK.out.size))) j hlt
      have hS := take_snocE es j (by have := HLA.out; omega)
      obtain ⟨x, hx⟩ : ∃ x, x = es.getD j e0 := ⟨_, rfl⟩
      rw [← hx] at d0 d1 d2 hS
      obtain ⟨v, r, w⟩ := x
      dsimp only at d0 d1 d2
      have HS := Lib.hid (show flat (es.take (j + 1)) = flat (es.take j) ++ flat [(v, r, w)] by rw [hS, flat_app])
      have HKR := Lib.hid hkp
      have HR := Lib.hid hown
      have hji : (j : Int) < la := by omega
      clear hS hx hown
      have hsz := hkp.size
      clear hkp
      go_wp2_with (at_builtin; refine wpList_append_rd _ rfl _ _ 89 rfl w2.heap.size 74 i0 (.agg #[.int .u64 0, .int .u32 0, .int .u32 0]) 3 16 Try.underlying89 HI.out HZ0.out HZ1.out HZ2.out rfl (by decide) _ j (flat (es.take j)) rfl ?qc1 (some ⟨wr.heap.size + 1, 0, none⟩) 1 1 (flat [(v, r, w)]) rfl ?qc2 (flat_one [(v, r, w)]) ?qc4 ?qc5 ?qc6 ?_)
      case qc1 => exact own_kp HR.out (((Kp.refl _ wr).alloc (Nat.le_refl _) _).alloc (by simp) _)
      case qc2 => simpa using rd_ent (wr.alloc (.cells #[.int .u64 v, .int .u32 r, .int .u32 w] 25)) v r w 74
      case qc4 => unfold maxLen; omega
      case qc5 => omega
      case qc6 => simp; omega
      intro v' w3 hown' hgrow
      have HR2 := Lib.hid (show w3.ownsRow w2.heap.size 74 3 v' (j + 1) (flat (es.take (j + 1))) by rw [HS.out]; exact hown')
      have HKn := Lib.hid (((HKR.out.alloc hsz _).alloc (by simp; omega) _).grown hgrow (by simp; omega) (fun g hg => (HR.out.lt g hg).1))
      clear hown' hgrow HR HKR hsz d0 d1 d2
      go_wp2
      go_roundw
      case rel => exact ⟨j + 1, by omega, by go_num, HR2.out, HKn.out⟩
      case measure => simp [intOf]; omega
    · have hje : j = la := by omega
      subst hje
      obtain ⟨T, c3, rfl, _, _, _, hrd, _⟩ := own_form (show wr.ownsRow w2.heap.size 74 3 _ j (flat es) by have h := hown; rwa [show es.take j = es by rw [← HLA.out, List.take_length]] at h)
      have HT := Lib.hid (hrd.ents HLA.out)
      replace HO := Lib.hid (HO.out.kp hkp)
      replace HL := Lib.hid (HL.out.below hkp)
      replace HK := Lib.hid (HK.out.trans (hkp.mono HK.out.size))
      have hno : ¬ (j : Int) < (j : Int) := by omega
      clear hown hrd hkp hlt hj
      go_upto_if 39 with fail
      go_cut [10, 11] from 37 to 45 (fun x y w' => x = .int .u64 f ∧ y = .int .u64 t ∧ ∃ m, w' = wr.drewN m)
      case first =>
        by_cases hl1 : 1 < lb
        · have hl2 : (1 : Int) < lb := by omega
          obtain ⟨b, off, rfl, _, c0⟩ := (HCB.out.below HK.out) 0 (by omega)
          obtain ⟨b', off', e, _, c1⟩ := (HCB.out.below HK.out) 1 (by omega)
          cases e
          have h1 := HFF.out.1
          have h2 := HFF.out.2
          rw [if_pos hl1] at h1 h2
          rw [← h1, Nat.add_zero] at c0
          rw [← h2] at c1
          have hl3 : 0 < lb := by omega
          clear h1 h2
          go_wp2_with fail
          go_region
          all_goals
            go_wp2_with fail
            go_meet
            case rel => exact ⟨rfl, rfl, 1, rfl⟩
        · have hl2 : ¬ (1 : Int) < lb := by omega
          have h1 := HFF.out.1
          have h2 := HFF.out.2
          rw [if_neg hl1] at h1 h2
          subst h1 h2
          go_wp2_with fail
          all_goals
            go_meet
            case rel => exact ⟨rfl, rfl, 0, rfl⟩
      case rest =>
      obtain ⟨rfl, rfl, m, rfl⟩ := hcut
      replace HO := Lib.hid (HO.out.kp ((Kp.refl _ _).drewN m))
      replace HL := Lib.hid (HL.out.below ((Kp.refl _ _).drewN m))
      replace HT := Lib.hid (HT.out.kp ((Kp.refl _ _).drewN m))
      replace HK := Lib.hid (HK.out.drewN m)
      generalize wr.drewN m = wq at *
      go_wp2_with fail
      refine (H3 _ _ _ HO.out).out.mono ?_
      rintro e w5 ⟨v, rfl, hown, hk1⟩
      rw [HXL.out] at hown
      obtain ⟨A2, c4, rfl, hc4, hm4, hfrom⟩ := own_from HXL.out hown
      have HF2 := Lib.hid hfrom
      have HT5 := Lib.hid (HT.out.kp hk1)
      have HK5 := Lib.hid hk1
      have hs5 := hk1.size
      unfold maxLen at hm4
      clear hown hfrom hk1 H3
      go_wp2_with fail
      refine (H4 _ _ _ HT5.out).out.mono ?_
      rintro e w6 ⟨v, rfl, hown, hk1⟩
      rw [HXL.out] at hown
      obtain ⟨A3, c5, rfl, hc5, hm5, hfrom⟩ := own_from HXL.out hown
      have HF3 := Lib.hid hfrom
      replace HF2 := Lib.hid (HF2.out.kp hk1)
      replace HK5 := Lib.hid (HK5.out.trans (hk1.mono HK5.out.size))
      unfold maxLen at hm5
      have hsz5 := hk1.size
      clear hown hfrom hk1 H4 HT5
      go_wp2_with fail
      go_loopw [72] (fun i wr => ∃ k : Nat, k ≤ n ∧ i = .int .i64 k ∧ EntsFrom wr A2 wq.heap.size w5.heap.size k n xs ∧ EntsFrom wr A3 w5.heap.size w6.heap.size 0 n xs ∧ Kp wq.heap.size wq wr) (fun i _ => n - (intOf i).toNat)
      case atStart => exact ⟨0, Nat.zero_le _, rfl, HF2.out, HF3.out, HK5.out⟩
      case round =>
        clear HF2 HF3 HK5
        obtain ⟨k, hk, rfl, hf2, hf3, hkp⟩ := hrel
        by_cases hlt : k < n
        · obtain ⟨g, off, rfl, hg1, hg2, c0, c1, c2, cz⟩ := hf2 k (Nat.le_refl _) hlt
          obtain ⟨g', off', rfl, hg3, hg4, d0, d1, d2, _⟩ := hf3 k (Nat.zero_le _) hlt
          have HF2 := Lib.hid hf2
          have HF3 := Lib.hid hf3
          have HK5 := Lib.hid hkp
          generalize (xs.getD k e0).1 = x at *
          generalize (xs.getD k e0).2.1 = y at *
          generalize (xs.getD k e0).2.2 = z at *
          have hki : (k : Int) < n := by omega
          clear hf2 hf3 hkp
          go_wp2_with fail
          go_quiet (fail)
          all_goals
            go_wp2_with fail
            refine ⟨⟨k + 1, by omega, by go_num, ((HF2.out.kp ((Kp.refl _ _).drewN _)).put _ _ _), ((HF3.out.kp ((Kp.refl _ _).drewN _)).putFar _ _ _ _ _ hg2), ((HK5.out.drewN _).put hg1 _ _ _ _)⟩, ?_⟩
            simp [intOf]
            omega
        · have hkn : k = n := by omega
          subst hkn
          have hno : ¬ (k : Int) < (k : Int) := by omega
          have HKA := Lib.hid (HK.out.trans (hkp.mono HK.out.size))
          replace HO := Lib.hid (HO.out.kp hkp)
          replace HL := Lib.hid (HL.out.below hkp)
          replace HT := Lib.hid (HT.out.kp hkp)
          clear hf2 hf3 hkp hlt hk HK
          generalize wr = wz at *
          go_wp2_with fail
          go_loopw [91] (fun i wx => ∃ q : Nat, q ≤ j ∧ i = .int .i64 q ∧ Kp wz.heap.size wz wx) (fun i _ => j - (intOf i).toNat)
          case atStart => exact ⟨0, Nat.zero_le _, rfl, Kp.refl _ _⟩
          case round =>
            obtain ⟨q, hq, rfl, hkx⟩ := hrel
            have hka := HKA.out.trans (hkx.mono HKA.out.size)
            by_cases hlt : q < j
            · obtain ⟨b1, o1, rfl, hb1, c0, c1, c2⟩ := (HCA.out.kp hka) q hlt
              obtain ⟨b2, o2, rfl, hb2, d0, d1, d2⟩ := (HT.out.kp hkx) q hlt
              have K5 := fun (w : World) (h : Kp wz.heap.size wz w) => H5 w q hlt B1 c2_ (HL.out.below h)
              have K6 := fun (w : World) (h : Kp wz.heap.size wz w) => H6 w q hlt B cb (HCB.out.below (HKA.out.trans (h.mono HKA.out.size)))
              generalize iff (rightB (es.getD q e0).1 (es.getD q e0).2.1 (es.getD q e0).2.2) (thAt (es.getD q e0).1 (es.getD q e0).2.1 fs (lb - 1)).1 = rv at *
              generalize iff (rightB (es.getD q e0).1 (es.getD q e0).2.1 (es.getD q e0).2.2) (thAt (es.getD q e0).1 (es.getD q e0).2.1 fs (lb - 1)).2 = rr at *
              generalize iff (rightB (es.getD q e0).1 (es.getD q e0).2.1 (es.getD q e0).2.2) (es.getD q e0).2.2 = rw_ at *
              generalize xE (es.getD q e0).1 (es.getD q e0).2.1 (es.getD q e0).2.2 = re at *
              generalize (es.getD q e0).1 = x at *
              generalize (es.getD q e0).2.1 = y at *
              generalize (es.getD q e0).2.2 = z at *
              have hqi : (q : Int) < j := by omega
              have HX := Lib.hid hkx
              clear hkx hka
              go_wp2_with fail
              refine (K5 _ HX.out).out.mono ?_
              rintro e w7 ⟨rfl, hg1⟩
              have hk7 := hg1.kp
              have HX7 := Lib.hid (HX.out.trans (hk7.mono HX.out.size))
              have d0' := (hk7.cell (p := ⟨b2, o2 + q * 3, none⟩) hb2).trans d0
              have d1' := (hk7.cell (p := ⟨b2, o2 + q * 3 + 1, none⟩) hb2).trans d1
              have d2' := (hk7.cell (p := ⟨b2, o2 + q * 3 + 2, none⟩) hb2).trans d2
              have hb7 : b2 < w7.heap.size := Nat.lt_of_lt_of_le hb2 hk7.size
              clear hg1 hk7 d0 d1 d2 c0 c1 c2 K5
              have hs7 := HX7.out.size
              go_wp2_with fail
              have P := C3.new w7 (.int .u64 rv) (.int .u32 rr) (.int .u32 rw_) 25
              have HX8 := Lib.hid (HX7.out.alloc hs7 (.cells #[.int .u64 rv, .int .u32 rr, .int .u32 rw_] 25))
              refine (K6 _ HX8.out).out.mono ?_
              rintro e w8 ⟨rfl, hg1⟩
              replace P := P.kp hg1.kp
              have HX9 := Lib.hid (HX8.out.trans (hg1.kp.mono HX8.out.size))
              clear hg1 K6 HX HX7 HX8 d0' d1' d2'
              have P0 := P.c0
              have P1 := P.c1
              have P2 := P.c2
              have Pl := P.lt
              have hs9 := HX9.out.size
              clear P
              go_wp2_with fail
              go_roundw
              case rel => exact ⟨q + 1, by omega, by go_num, HX9.out.alloc hs9 _⟩
              case measure => simp [intOf]; omega
            · have hqj : q = j := by omega
              subst hqj
              have hno : ¬ (q : Int) < (q : Int) := by omega
              have HKB := Lib.hid hka
              replace HO := Lib.hid (HO.out.kp hkx)
              replace HL := Lib.hid (HL.out.below hkx)
              clear hkx hka hlt hq HKA HT H5 H6
              go_wp2_with fail
              refine (H7 _ HKB.out _ _ HO.out).out.mono ?_
              rintro e w7 ⟨rfl, m7, rfl⟩
              replace HL := Lib.hid (HL.out.below ((Kp.refl _ _).drewN m7))
              have HKC := Lib.hid (HKB.out.drewN m7)
              go_wp2_with fail
              refine (H8 _ HKC.out _ _ HL.out).out.mono ?_
              rintro e w8 ⟨rfl, m8, rfl⟩
              go_wp2_with fail
              go_ret
              exact ⟨rfl, HKB.out.drewN _⟩
end Go.Proofs.Ytmlapjaccmoleaa
