/-
  The law MoveAll, walked.
-/
import Derived.Test.YtmlapjaccmoleaaAll
import Derived.Test.YtmlapjaccmoleaaMadeM
import Derived.Deep.QuietTactic
import Derived.BigQuiet
import Derived.Deep.CutRange
import Derived.Deep.Slices
namespace Go.Proofs.Ytmlapjaccmoleaa
open Go.RowKit

theorem choose_ents {n : Nat} {p : Nat → E3 → Prop} (h : ∀ i, i < n → ∃ q, p i q) : ∃ qs : List E3, qs.length = n ∧ ∀ i, i < n → p i (qs.getD i e0) := by
  obtain ⟨q, hq⟩ := Go.Deep.choose_lt h
  refine ⟨(List.range n).map q, by simp, fun i hi => ?_⟩
  have : ((List.range n).map q).getD i e0 = q i := by simp [List.getD_eq_getElem?_getD, hi]
  rw [this]
  exact hq i hi
theorem ebs_of {qs : List E3} (h : ∀ i, i < qs.length → EB (qs.getD i e0).1 (qs.getD i e0).2.1 (qs.getD i e0).2.2) : EBs qs := by
  intro e he
  obtain ⟨i, hi, rfl⟩ := List.getElem_of_mem he
  have := h i hi
  rwa [List.getD_eq_getElem?_getD, List.getElem?_eq_getElem hi] at this
theorem map_getD (g : E3 → E3) (qs : List E3) (i : Nat) (hi : i < qs.length) : (qs.map g).getD i e0 = g (qs.getD i e0) := by
  rw [List.getD_eq_getElem?_getD, List.getD_eq_getElem?_getD, List.getElem?_map, List.getElem?_eq_getElem hi]
  rfl

set_option maxRecDepth 100000 in
set_option maxHeartbeats 4000000 in
theorem all_law {f t : Int} (W : World) (A : Option Addr) (len cap n : Nat) (es : List E3) (hlen : es.length = len) (hn20 : n ≤ 20) (hnl : n = len ∨ (n = 20 ∧ 20 ≤ len)) (hcap : len ≤ cap) (hmax : (cap : Int) ≤ 9223372036854775807) (hc : IsEnts W A len es) (hE : EBs es)
    (f0 : 0 ≤ f ∧ f ≤ 18446744073709551615) (t0 : 0 ≤ t ∧ t ≤ 18446744073709551615) :
    Calls Try.prog 15 #[.slice A len cap, .int .u64 f, .int .u64 t] W fun e w' => e = .returned (.bool true) ∧ Kp W.heap.size W w' := by
  obtain ⟨i0, hi, hz0, hz1, hz2⟩ := info_parts ent_info
  have HI := Lib.hid hi
  have HZ0 := Lib.hid hz0
  have HZ1 := Lib.hid hz1
  have HZ2 := Lib.hid hz2
  have HA := fun W => Lib.hid (awakeM_any W)
  have hnlen : n ≤ len := by omega
  obtain ⟨qs, hql, hqs⟩ := choose_ents (n := n) (p := fun i q => EB q.1 q.2.1 q.2.2 ∧ rightE q = true ∧ ∀ W, Calls Try.prog 35 #[ent (es.getD i e0).1 (es.getD i e0).2.1 (es.getD i e0).2.2] W fun e w' => e = .returned (ent q.1 q.2.1 q.2.2) ∧ GrewS W w') (fun i hi => by
    obtain ⟨R, M, h1, h2, h3⟩ := madeM_ent (hE.at (i := i) (by omega))
    exact ⟨(_, R, M), h1, h2, h3⟩)
  have HQ := Lib.hid hqs
  have HQL := Lib.hid hql
  have HC := Lib.hid hc
  have HF := Lib.hid f0
  have HT := Lib.hid t0
  have HALL := fun (w : World) (A : Option Addr) (cap : Nat) (h : IsEnts w A n qs) => Lib.hid (all_t w A n cap qs hql (by omega) h (ebs_of (by rw [hql]; exact fun i hi => (hqs i hi).1)) (fun i hi => (hqs i hi).2.1) f0 t0)
  have HNL := Lib.hid hnl
  have hn20' : (n : Int) ≤ 20 := by omega
  have hnlen' : (n : Int) ≤ len := by omega
  clear hi hz0 hz1 hz2 hlen hc hE hqs hql f0 t0 hnl
  go_enter Try.func15, Try.ntmps15
  go_wp2_with fail
  refine (HA _).out.mono ?_
  rintro e w1 ⟨rfl, hg1⟩
  have HK := Lib.hid hg1.kp
  clear hg1 HA
  go_upto_region 4 with fail
  go_cut [22, 23, 24] from 18 to 21 (fun s l i w' => s = .slice A n cap ∧ l = .int .i64 n ∧ i = .int .i64 0 ∧ w1 = w')
  case first =>
    rcases HNL.out with rfl | ⟨rfl, h⟩
    · go_wp2_with fail
      all_goals
        go_meet
        case rel => exact ⟨by first | rfl | (congr 1; omega), by first | rfl | (congr 1; omega), rfl, rfl⟩
    · have h' : (20 : Int) ≤ len := by omega
      go_wp2_with fail
      all_goals
        go_meet
        case rel => exact ⟨by first | rfl | (congr 1; omega), by first | rfl | (congr 1; omega), rfl, rfl⟩
  case rest =>
  obtain ⟨rfl, rfl, rfl, rfl⟩ := hcut
  go_wp2_with fail
  go_loopw [7, 24] (fun o i wr => ∃ j : Nat, j ≤ n ∧ i = .int .i64 j ∧ wr.ownsRow W.heap.size 25 3 o j (flat (qs.take j)) ∧ Kp W.heap.size W wr) (fun _ i _ => n - (intOf i).toNat)
  case atStart => exact ⟨0, Nat.zero_le _, rfl, World.ownsRow_nil _ _ _ _, HK.out⟩
  case round =>
    clear HK
    obtain ⟨j, hj, rfl, hown, hkp⟩ := hrel
    by_cases hlt : j < n
    · obtain ⟨b, off, rfl, _, c0, c1, c2⟩ := (HC.out.kp hkp) j (by omega)
      have hm := (HQ.out j hlt).2.2
      have hS := take_snocE qs j (by have := HQL.out; omega)
      have HS := Lib.hid (show flat (qs.take (j + 1)) = flat (qs.take j) ++ flat [qs.getD j e0] by rw [hS, flat_app])
      have HM := fun W => Lib.hid (hm W)
      have HKP := Lib.hid hkp
      have HO := Lib.hid hown
      have hji : (j : Int) < n := by omega
      have hsz := hkp.size
      clear hS hm hkp hown
      obtain ⟨x, hx⟩ : ∃ x, x = qs.getD j e0 := ⟨_, rfl⟩
      rw [← hx] at HM HS
      obtain ⟨V, R, M⟩ := x
      clear hx
      generalize (es.getD j e0).1 = v at *
      generalize (es.getD j e0).2.1 = r at *
      generalize (es.getD j e0).2.2 = w at *
      go_wp2_with fail
      refine (HM _).out.mono ?_
      rintro e w2 ⟨rfl, hg1⟩
      have HO1 := Lib.hid (own_kp HO.out (((Kp.refl _ wr).alloc (Nat.le_refl _) _) |>.trans (hg1.kp.mono (by simp))))
      have HK1 := Lib.hid ((HKP.out.alloc HKP.out.size _).trans (hg1.kp.mono (by simp; omega)))
      clear HM hg1 c0 c1 c2 HO HKP hsz
      have hsz1 := HK1.out.size
      go_wp2_with (at_builtin; refine wpList_append_rd _ rfl _ _ 44 rfl W.heap.size 25 i0 (.agg #[.int .u64 0, .int .u32 0, .int .u32 0]) 3 16 Try.underlying44 HI.out HZ0.out HZ1.out HZ2.out rfl (by decide) _ j (flat (qs.take j)) rfl ?qc1 (some ⟨w2.heap.size, 0, none⟩) 1 1 (flat [(V, R, M)]) rfl ?qc2 (flat_one [(V, R, M)]) ?qc4 ?qc5 ?qc6 ?_)
      case qc1 => exact own_kp HO1.out ((Kp.refl _ w2).alloc (Nat.le_refl _) _)
      case qc2 => exact rd_ent w2 V R M 25
      case qc4 => unfold maxLen; omega
      case qc5 => omega
      case qc6 => simp; omega
      intro v' w3 hown' hgrow
      have HO2 := Lib.hid (show w3.ownsRow W.heap.size 25 3 v' (j + 1) (flat (qs.take (j + 1))) by rw [HS.out]; exact hown')
      have HK2 := Lib.hid ((HK1.out.alloc hsz1 _).grown hgrow (by simp; omega) (fun g hg => (HO1.out.lt g hg).1))
      clear hown' hgrow HO1 HK1 hsz1
      go_wp2
      go_roundw
      case rel => exact ⟨j + 1, by omega, by go_num, HO2.out, HK2.out⟩
      case measure => simp [intOf]; omega
    · have hje : j = n := by omega
      subst hje
      have hown2 := hown
      rw [show qs.take j = qs by rw [← HQL.out, List.take_length]] at hown2
      obtain ⟨A1, k1, rfl, hk1, hk2, hk3, hrd, hk4⟩ := own_form hown2
      have HE1 := Lib.hid (hrd.ents HQL.out)
      have HK := Lib.hid hkp
      have hno : ¬ (j : Int) < (j : Int) := by omega
      unfold maxLen at hk2
      clear hown hown2 hkp hlt hj hrd hk4 hk3
      go_wp2_with fail
      refine (HALL _ _ _ HE1.out).out.mono ?_
      rintro e w2 ⟨v2, rfl, hown3, hk5⟩
      have hl2 : (qs.map (mvE f t)).length = j := by rw [List.length_map]; exact HQL.out
      rw [hl2] at hown3
      obtain ⟨A2, k2, rfl, hk6, hk7, hk8, hrd2, hk9⟩ := own_form hown3
      have HE2 := Lib.hid (hrd2.ents hl2)
      replace HE1 := Lib.hid (HE1.out.kp hk5)
      replace HK := Lib.hid (HK.out.trans (hk5.mono HK.out.size))
      unfold maxLen at hk7
      clear hown3 hk5 hrd2 hk8 hk9 HALL hl2
      go_wp2_with fail
      go_loopw [52] (fun i wr => ∃ k : Nat, k ≤ j ∧ i = .int .i64 k ∧ IsEnts wr A1 j qs ∧ IsEnts wr A2 j (qs.map (mvE f t)) ∧ Kp W.heap.size W wr) (fun i _ => j - (intOf i).toNat)
      case atStart => exact ⟨0, Nat.zero_le _, rfl, HE1.out, HE2.out, HK.out⟩
      case round =>
        clear HE1 HE2 HK
        obtain ⟨k, hk, rfl, he1, he2, hkp⟩ := hrel
        by_cases hlt : k < j
        · obtain ⟨b1, o1, rfl, hb1, c0, c1, c2⟩ := he1 k hlt
          obtain ⟨b2, o2, rfl, hb2, d0, d1, d2⟩ := he2 k hlt
          rw [map_getD _ _ _ (by rw [HQL.out]; exact hlt)] at d0 d1 d2
          unfold mvE at d0 d1 d2
          have hb := (HQ.out k hlt).1
          have hr := (HQ.out k hlt).2.1
          unfold rightE at hr
          dsimp only at d0 d1 d2
          generalize (qs.getD k e0).1 = v at *
          generalize (qs.getD k e0).2.1 = r at *
          generalize (qs.getD k e0).2.2 = w at *
          have H := fun W => Lib.hid (moved_t W hb HF.out.1 HF.out.2 HT.out.1 HT.out.2 hr)
          generalize mvV v f t = V at *
          generalize mvR v r f t = R at *
          have HE1 := Lib.hid he1
          have HE2 := Lib.hid he2
          have HK := Lib.hid hkp
          have hki : (k : Int) < j := by omega
          clear he1 he2 hkp hb hr
          go_wp2_with fail
          refine (H _).out.mono ?_
          rintro e w3 ⟨rfl, hg1⟩
          have kk := ((Kp.refl wr.heap.size wr).alloc (Nat.le_refl _) (.cells #[.int .u64 v, .int .u32 r, .int .u32 w] 25)).trans (hg1.kp.mono (by simp))
          replace HE1 := Lib.hid (HE1.out.kp kk)
          replace HE2 := Lib.hid (HE2.out.kp kk)
          replace HK := Lib.hid (HK.out.trans (kk.mono HK.out.size))
          have d0' := (kk.cell (p := ⟨b2, o2 + k * 3, none⟩) hb2).trans d0
          have d1' := (kk.cell (p := ⟨b2, o2 + k * 3 + 1, none⟩) hb2).trans d1
          have d2' := (kk.cell (p := ⟨b2, o2 + k * 3 + 2, none⟩) hb2).trans d2
          have hb3 : b2 < w3.heap.size := Nat.lt_of_lt_of_le hb2 kk.size
          clear kk hg1 H c0 c1 c2 d0 d1 d2
          go_wp2_with fail
          go_quiet (fail)
          all_goals
            go_wp2_with fail
            go_roundw
            case rel => exact ⟨k + 1, by omega, by go_num, (HE1.out.kp ((Kp.refl _ w3).alloc (Nat.le_refl _) _)).kp ((Kp.refl _ _).drewN _), (HE2.out.kp ((Kp.refl _ w3).alloc (Nat.le_refl _) _)).kp ((Kp.refl _ _).drewN _), (HK.out.alloc HK.out.size _).drewN _⟩
            case measure => simp [intOf]; omega
        · have hkj : k = j := by omega
          subst hkj
          have hno : ¬ (k : Int) < (k : Int) := by omega
          have HK := Lib.hid hkp
          clear he1 he2 hkp hlt hk
          go_wp2_with fail
          go_ret
          exact ⟨rfl, HK.out⟩
theorem law15 {W : World} (A : Option Addr) (cap : Nat) (es : List E3) (hc : es.length ≤ cap) (hm : (cap : Int) ≤ 9223372036854775807) (_ : A = none → cap = 0) (hi : IsEnts W A es.length es) (hE : EBs es)
    (f : Int) (wf : (Lit.int .u64 f).wf = true) (t : Int) (wt : (Lit.int .u64 t).wf = true) :
    Calls Try.prog 15 #[.slice A es.length cap, .int .u64 f, .int .u64 t] W fun e w' => e = .returned (.bool true) ∧ Kp W.heap.size W w' := by
  have hf := bounds_u64 wf
  have ht := bounds_u64 wt
  by_cases h : es.length < 20
  · exact all_law W A _ cap es.length es rfl (by omega) (Or.inl rfl) hc hm hi hE hf ht
  · exact all_law W A _ cap 20 es rfl (by omega) (Or.inr ⟨rfl, by omega⟩) hc hm hi hE hf ht
end Go.Proofs.Ytmlapjaccmoleaa
