/-
  The reference's Plan.
-/
import Derived.Test.YticgdfbknaholaaRefE27
import Derived.Test.YticgdfbknaholaaLimV27
namespace Go.Proofs.Yticgdfbknaholaa
open Go.RowKit

theorem mv_infoR : (Try.prog.info? 89).map (fun i => (i.zero, i.size, i.bytes)) = some (some (.agg #[.int .i64 0, .int .i64 0, .int .i64 0]), 3, 24) := by kernel_rfl
/-- The state of the reference's loop. -/
structure RS (W : World) (b0 bR : Nat) (w : World) (v : Value) (s : Sc) (out : List Mv) : Prop where
  sc : ∃ A ca B cb, C3 w b0 (.int .i64 s.n) (.slice A s.ts.length ca) (.slice B s.cur.length cb) ∧ ScAt w A s.ts.length B s.cur.length s ∧ (A = none → ca = 0) ∧ (B = none → cb = 0) ∧ (s.ts.length = 0 ∨ ∀ p, A = some p → p.block < W.heap.size ∨ Ty w p.block 43) ∧ (∀ p, B = some p → p.block < W.heap.size)
  fs : Fz w b0
  ty : Ty w b0 83
  r : C3 w bR (.int .i64 0) (.slice none 0 0) (.slice none 0 0)
  fr : Fz w bR
  tr : Ty w bR 83
  row : w.ownsRow W.heap.size 89 3 v out.length (flatM out)
  kp : Kp W.heap.size W w
  fit : s.fit
section
variable {W w w' : World} {b0 bR : Nat} {v v' : Value} {s : Sc} {out : List Mv}
theorem RS.kps (h : RS W b0 bR w v s out) (k : Kp w.heap.size w w') : RS W b0 bR w' v s out := by
  obtain ⟨A, ca, B, cb, h1, h2, h3, h4, h5, h6⟩ := h.sc
  exact ⟨⟨A, ca, B, cb, h1.kp k, h2.kp k, h3, h4, h5.imp id (fun h7 p hp => (h7 p hp).imp id (fun t => t.kp k)), h6⟩, h.fs.kp k, h.ty.kp k, h.r.kp k, h.fr.kp k, h.tr.kp k, own_kp h.row k, h.kp.trans (k.mono h.kp.size), h.fit⟩
theorem RS.grown {m : Mv} (h : RS W b0 bR w v s out) (g : w.grownBy w' v.ownBlock) (hrow : w'.ownsRow W.heap.size 89 3 v' (out.length + 1) (flatM out ++ flatM [m])) : RS W b0 bR w' v' s (out ++ [m]) := by
  obtain ⟨A, ca, B, cb, h1, h2, h3, h4, h5, h6⟩ := h.sc
  obtain ⟨n1, n2, k, hn, hb⟩ := own_kxG h.row g
  have cS := hb b0 (own_tyG h.row h.ty (by decide))
  have cR := hb bR (own_tyG h.row h.tr (by decide))
  have z : ∀ b : Nat, b < 0 ∨ 0 ≤ b := fun b => Or.inr (Nat.zero_le _)
  have cA : s.ts.length = 0 ∨ ∀ p, A = some p → p.block < n1 ∨ n2 ≤ p.block := h5.imp id (fun h8 p hp => by
    rcases h8 p hp with h7 | h7
    · omega
    · exact hb p.block (own_tyG h.row h7 (by decide)))
  have hts : IsTks w' A s.ts.length s.ts := by
    rcases cA with h0 | h0
    · exact fun i hi => absurd hi (by omega)
    · exact h2.ts.kx k h0
  have h5' : s.ts.length = 0 ∨ ∀ p, A = some p → p.block < W.heap.size ∨ Ty w' p.block 43 := by
    rcases cA with h0 | h0
    · exact Or.inl h0
    · rcases h5 with h7 | h7
      · exact Or.inl h7
      · exact Or.inr (fun p hp => (h7 p hp).imp id (fun t => t.kx k (h0 p hp) (z _)))
  have cB : ∀ p, B = some p → p.block < n1 ∨ n2 ≤ p.block := fun p hp => by have := h6 p hp; omega
  refine ⟨⟨A, ca, B, cb, h1.kx k cS (z _), ⟨h2.hla, h2.hlb, hts, isInts_kx h2.cur k cB, h2.ok, h2.lam, h2.lbm⟩, h3, h4, h5', h6⟩, h.fs.kx k cS, h.ty.kx k cS (z _), h.r.kx k cR (z _), h.fr.kx k cR, h.tr.kx k cR (z _), ?_, h.kp.trans (k.kp h.kp.size (Or.inr hn) (Or.inl (Nat.le_refl _))), h.fit⟩
  rw [List.length_append, flatM_app]
  exact hrow
theorem RS.store {s' : Sc} {A B : Option Addr} {ca cb : Nat} (h : RS W b0 bR w v s out) (hd : b0 ≠ bR) (hw : W.heap.size ≤ b0) (hsc : ScAt w A s'.ts.length B s'.cur.length s') (hA : A = none → ca = 0) (hB : B = none → cb = 0)
    (tA : ∀ p, A = some p → Ty w p.block 43) (tB : ∀ p, B = some p → p.block < W.heap.size) (hf : s'.fit) :
    RS W b0 bR (((w.setCell ⟨b0, 0, none⟩ (.int .i64 s'.n)).setCell ⟨b0, 1, none⟩ (.slice A s'.ts.length ca)).setCell ⟨b0, 2, none⟩ (.slice B s'.cur.length cb)) v s' out := by
  obtain ⟨A0, ca0, B0, cb0, h1, _⟩ := h.sc
  have k : Kx b0 (b0 + 1) 0 0 w (((w.setCell ⟨b0, 0, none⟩ (.int .i64 s'.n)).setCell ⟨b0, 1, none⟩ (.slice A s'.ts.length ca)).setCell ⟨b0, 2, none⟩ (.slice B s'.cur.length cb)) :=
    (((Kx.refl _ _ _ _ w).setIn (p := ⟨b0, 0, none⟩) (Nat.le_refl _) (Nat.lt_succ_self _) _).setIn (p := ⟨b0, 1, none⟩) (Nat.le_refl _) (Nat.lt_succ_self _) _).setIn (p := ⟨b0, 2, none⟩) (Nat.le_refl _) (Nat.lt_succ_self _) _
  have ne : ∀ b, b ≠ b0 → b < b0 ∨ b0 + 1 ≤ b := fun b h => by omega
  have z : ∀ b : Nat, b < 0 ∨ 0 ≤ b := fun b => Or.inr (Nat.zero_le _)
  have cA : ∀ p, A = some p → p.block < b0 ∨ b0 + 1 ≤ p.block := fun p hp => ne _ (ty_ne (tA p hp) h.ty (by decide))
  have cB : ∀ p, B = some p → p.block < b0 ∨ b0 + 1 ≤ p.block := fun p hp => by have := tB p hp; omega
  exact ⟨⟨A, ca, B, cb, h1.set _ _ _, ⟨hsc.hla, hsc.hlb, hsc.ts.kx k cA, isInts_kx hsc.cur k cB, hsc.ok, hsc.lam, hsc.lbm⟩, hA, hB, Or.inr (fun p hp => Or.inr ((tA p hp).kx k (cA p hp) (z _))), tB⟩, ((h.fs.set _ _).set _ _).set _ _, ((h.ty.set _ _).set _ _).set _ _, h.r.kx k (ne _ hd.symm) (z _), h.fr.kx k (ne _ hd.symm), h.tr.kx k (ne _ hd.symm) (z _), own_far h.row k (fun b hb2 => ne b (fun e => own_tyG h.row h.ty (by decide) (by rw [hb2, e]))), h.kp.trans (k.kp h.kp.size (Or.inr hw) (Or.inl (Nat.le_refl _))), hf⟩
end
/-- What the reference's Plan hands back. -/
def RefPlan (W : World) (r : Sc × List Mv × Int) (e : Ending) (w' : World) : Prop := ∃ v A ca B cb, e = .returned (.tuple #[v, .agg #[.int .i64 r.1.n, .slice A r.1.ts.length ca, .slice B r.1.cur.length cb], .int .i64 r.2.2]) ∧ w'.ownsRow W.heap.size 89 3 v r.2.1.length (flatM r.2.1) ∧ ScAt w' A r.1.ts.length B r.1.cur.length r.1 ∧ Kp W.heap.size W w'
theorem all_fail {s : Sc} {N b : Nat} (hb : b < N) (h : ∀ d, d < N → (pullV s (((b + d) % N : Nat) : Int)).2 ≠ 0) : ∀ e : Nat, e < N → (pullV s (e : Int)).2 ≠ 0 := fun e he => by
  rcases Nat.lt_or_ge e b with h1 | h1
  · have := h (N - b + e) (by omega)
    rwa [show b + (N - b + e) = N + e by omega, Nat.add_mod_left, Nat.mod_eq_of_lt he] at this
  · have := h (e - b) (by omega)
    rwa [show b + (e - b) = e by omega, Nat.mod_eq_of_lt he] at this
set_option maxRecDepth 100000 in
set_option maxHeartbeats 4000000 in
theorem refPlan_any (W : World) {A B : Option Addr} {la ca lb cb : Nat} {s : Sc} {most : Int} (h : ScAt W A la B lb s) (hA : A = none → ca = 0) (hB : B = none → cb = 0) (hm : most ≤ 1000000) :
    Calls Try.prog 47 #[.agg #[.int .i64 s.n, .slice A la ca, .slice B lb cb], .int .i64 most] W (RefPlan W (planV s most)) := by
  obtain ⟨rV, hV⟩ : ∃ v, v = planV s most := ⟨_, rfl⟩
  rw [← hV]
  have HV := Lib.hid hV
  have HSC := Lib.hid h
  have HRR := fun w (k : Kp W.heap.size W w) => Lib.hid (refRight_any (ca := ca) (cb := cb) w (h.kp k))
  have k1 := (Kp.refl W.heap.size W).alloc (Nat.le_refl _) (.cells #[.int .i64 s.n, .slice A la ca, .slice B lb cb] 83)
  have k2 := k1.alloc (by simp) (.cells #[.int .i64 0, .slice none 0 0, .slice none 0 0] 83)
  have HX := Lib.hid ((C3.new W (.int .i64 s.n) (.slice A la ca) (.slice B lb cb) 83).alloc (.cells #[.int .i64 0, .slice none 0 0, .slice none 0 0] 83))
  have HXZ := Lib.hid ((Fz.new W #[.int .i64 s.n, .slice A la ca, .slice B lb cb] 83).alloc (.cells #[.int .i64 0, .slice none 0 0, .slice none 0 0] 83))
  have HXT := Lib.hid ((Ty.new W #[.int .i64 s.n, .slice A la ca, .slice B lb cb] 83).alloc (.cells #[.int .i64 0, .slice none 0 0, .slice none 0 0] 83))
  have hm0 := C3.new (W.alloc (.cells #[.int .i64 s.n, .slice A la ca, .slice B lb cb] 83)) (.int .i64 0) (.slice none 0 0) (.slice none 0 0) 83
  have hz0 := Fz.new (W.alloc (.cells #[.int .i64 s.n, .slice A la ca, .slice B lb cb] 83)) #[.int .i64 0, .slice none 0 0, .slice none 0 0] 83
  have ht0 := Ty.new (W.alloc (.cells #[.int .i64 s.n, .slice A la ca, .slice B lb cb] 83)) #[.int .i64 0, .slice none 0 0, .slice none 0 0] 83
  simp only [World.size_alloc] at hm0 hz0 ht0
  have HM := Lib.hid hm0
  have HZ := Lib.hid hz0
  have HT := Lib.hid ht0
  have HK := Lib.hid k2
  have HNA := Lib.hid hA
  have HNB := Lib.hid hB
  clear hm0 hz0 ht0 k1 k2 hV h hA hB
  go_enter Try.func47, Try.ntmps47
  go_upto_region 1 with fail
  generalize (W.alloc _).alloc _ = w1 at *
  obtain ⟨b0, hb0⟩ : ∃ b, b = W.heap.size := ⟨_, rfl⟩
  obtain ⟨bR, hbR⟩ : ∃ b, b = W.heap.size + 1 := ⟨_, rfl⟩
  rw [← hbR] at HM HZ HT
  rw [← hb0] at HX HXZ HXT
  rw [← hbR, ← hb0]
  have W0 : W.heap.size ≤ b0 := by omega
  have WR : W.heap.size ≤ bR := by omega
  have d0R : b0 ≠ bR := by omega
  clear hb0 hbR
  obtain ⟨x0, x1, x2, xl⟩ := HX.out
  go_wp2_with fail
  (with_reducible refine (HRR _ HK.out).out.mono ?_)
  clear x0 x1 x2 xl HRR
  rintro e w2 ⟨rfl, hk⟩
  have HK2 := Lib.hid (HK.out.trans (hk.mono HK.out.size))
  have HX2 := Lib.hid (HX.out.kp hk)
  have HXZ2 := Lib.hid (HXZ.out.kp hk)
  have HXT2 := Lib.hid (HXT.out.kp hk)
  have HM2 := Lib.hid (HM.out.kp hk)
  have HZ2 := Lib.hid (HZ.out.kp hk)
  have HT2 := Lib.hid (HT.out.kp hk)
  clear hk HX HXZ HXT HM HZ HT HK
  have BAD := Lib.hid (And.intro (HM2.out.set (.int .i64 0) (.slice none 0 0) (.slice none 0 0)) (((HK2.out.setCell (p := ⟨bR, 0, none⟩) WR (.int .i64 0)).setCell (p := ⟨bR, 1, none⟩) WR (.slice none 0 0)).setCell (p := ⟨bR, 2, none⟩) WR (.slice none 0 0)))
  cases hr : rightS s
  · have HF := Lib.hid (HV.out.trans (show planV s most = (s0, [], 270) by unfold planV; rw [hr]; rfl))
    obtain ⟨m0, m1, m2, ml⟩ := HM2.out
    have mf := HZ2.out.2
    clear hr
    go_wp2_with fail
    clear m0 m1 m2 ml mf
    generalize World.setCell _ _ _ = w9 at *
    obtain ⟨⟨m0, m1, m2, ml⟩, K⟩ := BAD.out
    refine bodyPost_ret (v := .tuple #[.slice none 0 0, .agg #[.int .i64 0, .slice none 0 0, .slice none 0 0], .int .i64 270]) (by simp [results, Try.results47, go_sem, m0, m1, m2]) rfl ?_
    rw [HF.out]
    exact ⟨_, none, 0, none, 0, rfl, World.ownsRow_nil _ _ _ _, scAt_zero _, K⟩
  by_cases hneg : most < 0
  · have HF := Lib.hid (HV.out.trans (show planV s most = (s0, [], 2) by unfold planV; rw [hr, if_pos rfl, if_pos hneg]))
    obtain ⟨m0, m1, m2, ml⟩ := HM2.out
    have mf := HZ2.out.2
    clear hr
    go_wp2_with fail
    clear m0 m1 m2 ml mf
    generalize World.setCell _ _ _ = w9 at *
    obtain ⟨⟨m0, m1, m2, ml⟩, K⟩ := BAD.out
    refine bodyPost_ret (v := .tuple #[.slice none 0 0, .agg #[.int .i64 0, .slice none 0 0, .slice none 0 0], .int .i64 2]) (by simp [results, Try.results47, go_sem, m0, m1, m2]) rfl ?_
    rw [HF.out]
    exact ⟨_, none, 0, none, 0, rfl, World.ownsRow_nil _ _ _ _, scAt_zero _, K⟩
  obtain ⟨M, rfl⟩ : ∃ M : Nat, most = (M : Int) := ⟨most.toNat, by omega⟩
  have hf := (rightS_iff s).1 hr
  obtain ⟨s', ms, hpl, hlim⟩ := plan_lim (M := M) hf
  have hV2 := HV.out.trans hpl
  subst hV2
  have hn3 := hf.cur
  have hn64 := hf.n64
  have hn1 := hf.n1
  obtain ⟨N, hN⟩ : ∃ N : Nat, s.n = (N : Int) := ⟨s.n.toNat, by omega⟩
  rw [hN] at hn64 hn1 hlim
  rw [Int.toNat_natCast] at hlim
  have HLIM := Lib.hid hlim
  have HSN := Lib.hid hN
  have hla := HSC.out.hla
  have hlb := HSC.out.hlb
  subst hla hlb
  have HRS := Lib.hid (show RS W b0 bR w2 (.slice none 0 0) s [] from ⟨⟨A, ca, B, cb, HX2.out, HSC.out.kp HK2.out, HNA.out, HNB.out, (by
      rcases Nat.eq_zero_or_pos s.ts.length with h0 | h0
      · exact Or.inl h0
      · refine Or.inr (fun p hp => Or.inl ?_)
        obtain ⟨b, off, e, T⟩ := HSC.out.ts 0 h0
        rw [hp] at e
        cases e
        exact T.lt), fun p hp => (by
      obtain ⟨b, off, e, hl, _⟩ := HSC.out.cur 0 (by omega)
      rw [hp] at e
      cases e
      exact hl)⟩, HXZ2.out, HXT2.out, HM2.out, HZ2.out, HT2.out, World.ownsRow_nil _ _ _ _, HK2.out, hf⟩)
  clear hn3 hf hpl hlim hN hr hneg HV HX2 HXZ2 HXT2 HM2 HZ2 HT2 HK2 BAD HNA HNB
  obtain ⟨i0, hi0, hz0, hz1, hz2⟩ := info_parts mv_infoR
  have HI := Lib.hid hi0
  have HZ0 := Lib.hid hz0
  have HZ1 := Lib.hid hz1
  have HZ2 := Lib.hid hz2
  clear hi0 hz0 hz1 hz2
  have hN64 : N ≤ 64 := by omega
  have hN1 : 1 ≤ N := by omega
  go_wp2_with fail
  go_loopw [7, 8, 9] (fun v i c wr => ∃ (s1 : Sc) (out : List Mv) (idle b : Nat), i = .int .i64 (idle : Int) ∧ c = .int .i64 (((b + idle) % N : Nat) : Int) ∧ idle ≤ N ∧ b < N ∧ out.length ≤ M ∧ s1.n = (N : Int) ∧ Lim M N s1 out ((b + idle) % N) s' ms ∧ (∀ d, d < idle → (pullV s1 (((b + d) % N : Nat) : Int)).2 ≠ 0) ∧ RS W b0 bR wr v s1 out) (fun v i _ _ => (M - lenOf v) * (N + 1) + (N - (intOf i).toNat))
  case atStart => exact ⟨s, [], 0, 0, rfl, by rw [Nat.zero_add, Nat.zero_mod]; rfl, Nat.zero_le _, by omega, Nat.zero_le _, HSN.out, by rw [Nat.zero_add, Nat.zero_mod]; exact HLIM.out, (fun d h => absurd h (Nat.not_lt_zero d)), HRS.out⟩
  case round =>
    clear HRS HLIM HSC HSN
    obtain ⟨s1, out, idle, b, rfl, rfl, hid, hb, hoM, hs1n, hlim, hfail, hrs⟩ := hrel
    have HLIM := Lib.hid hlim
    have HFAIL := Lib.hid hfail
    have HRS := Lib.hid hrs
    have HS1 := Lib.hid hs1n
    clear hlim hfail hrs hs1n
    obtain ⟨Av, cv, rfl, -⟩ := own_form HRS.out.row
    obtain ⟨A1, ca1, B1, cb1, hx1, hsc1, hA1, hB1, hT1, hT2⟩ := HRS.out.sc
    have HSC1 := Lib.hid hsc1
    have HA1 := Lib.hid hA1
    have HB1 := Lib.hid hB1
    have HB2 := Lib.hid hT2
    have HT1 := Lib.hid hT1
    rw [HS1.out] at hx1
    obtain ⟨lo, hlo⟩ : ∃ lo, lo = out.length := ⟨_, rfl⟩
    rw [← hlo] at hoM
    rw [← hlo]
    have HLO := Lib.hid hlo
    obtain ⟨cc, hcc⟩ : ∃ cc, cc = (b + idle) % N := ⟨_, rfl⟩
    rw [← hcc]
    have HCC := Lib.hid hcc
    have hccN : cc < N := by rw [hcc]; exact Nat.mod_lt _ (by omega)
    clear hlo hcc hsc1 hA1 hB1 hT1 hT2
    obtain ⟨x0, x1, x2, xl⟩ := hx1
    have FIN : ¬ (idle < N ∧ lo < M) → s' = s1 ∧ ms = out := fun hq => by
      have h := HLIM.out
      by_cases h1 : lo < M
      · have h2 : idle = N := by omega
        have h3 := HFAIL.out
        rw [h2] at h3
        exact h.ended (by omega) (Nat.mod_lt _ (by omega)) (all_fail hb h3)
      · exact h.full (by rw [← HLO.out]; omega)
    have HFIN := Lib.hid FIN
    clear FIN
    by_cases hgo : idle < N ∧ lo < M
    rotate_left
    · obtain ⟨e1, e2⟩ := HFIN.out hgo
      have HE1 := Lib.hid e1
      have HE2 := Lib.hid e2
      clear HFIN e1 e2
      obtain ⟨m0, m1, m2, ml⟩ := HRS.out.r
      have mf := HRS.out.fr.2
      have HKX : Kx bR (bR + 1) 0 0 wr.drew (((wr.drew.setCell ⟨bR, 0, none⟩ (.int .i64 (N : Int))).setCell ⟨bR, 1, none⟩ (.slice A1 s1.ts.length ca1)).setCell ⟨bR, 2, none⟩ (.slice B1 s1.cur.length cb1)) :=
        (((Kx.refl _ _ _ _ wr.drew).setIn (p := ⟨bR, 0, none⟩) (Nat.le_refl _) (Nat.lt_succ_self _) _).setIn (p := ⟨bR, 1, none⟩) (Nat.le_refl _) (Nat.lt_succ_self _) _).setIn (p := ⟨bR, 2, none⟩) (Nat.le_refl _) (Nat.lt_succ_self _) _
      have hC : C3 (((wr.drew.setCell ⟨bR, 0, none⟩ (.int .i64 (N : Int))).setCell ⟨bR, 1, none⟩ (.slice A1 s1.ts.length ca1)).setCell ⟨bR, 2, none⟩ (.slice B1 s1.cur.length cb1)) bR (.int .i64 (N : Int)) (.slice A1 s1.ts.length ca1) (.slice B1 s1.cur.length cb1) := HRS.out.r.drew.set _ _ _
      have kd : Kp wr.heap.size wr wr.drew := (Kp.refl _ _).drewN 1
      have HRD := HRS.out.kps kd
      obtain ⟨A1', ca1', B1', cb1', hx1', hsc1', hA1', hB1', hT1', hT2'⟩ := HRD.sc
      have hsc2 := HSC1.out.kp kd
      have ne : ∀ b, b ≠ bR → b < bR ∨ bR + 1 ≤ b := fun b h => by omega
      have hfin : ScAt (((wr.drew.setCell ⟨bR, 0, none⟩ (.int .i64 (N : Int))).setCell ⟨bR, 1, none⟩ (.slice A1 s1.ts.length ca1)).setCell ⟨bR, 2, none⟩ (.slice B1 s1.cur.length cb1)) A1 s1.ts.length B1 s1.cur.length s1 := by
        refine ⟨hsc2.hla, hsc2.hlb, ?_, isInts_kx hsc2.cur HKX (fun p hp => by have := HB2.out p hp; omega), hsc2.ok, hsc2.lam, hsc2.lbm⟩
        rcases HT1.out with h0 | h0
        · exact fun i hi => absurd hi (by omega)
        · refine hsc2.ts.kx HKX (fun p hp => ?_)
          rcases h0 p hp with h7 | h7
          · omega
          · exact ne _ (ty_ne h7 HRS.out.tr (by decide))
      have hrow := own_far HRD.row HKX (fun b hb2 => ne b (fun e => own_tyG HRD.row HRD.tr (by decide) (by rw [hb2, e])))
      have hkf := HRD.kp.trans (HKX.kp HRD.kp.size (Or.inr WR) (Or.inl (Nat.le_refl _)))
      have PP := Lib.hid (And.intro hC (And.intro hfin (And.intro hrow hkf)))
      have HGO := Lib.hid hgo
      have hgo' : (decide ((idle : Int) < (N : Int)) && decide ((lo : Int) < (M : Int))) = false := by
        cases hq : decide ((idle : Int) < (N : Int)) with
        | false => rfl
        | true =>
          have : (idle : Int) < (N : Int) := of_decide_eq_true hq
          simp only [Bool.true_and, decide_eq_false_iff_not]
          omega
      clear hC HKX kd HRD hx1' hsc1' hA1' hB1' hT1' hT2' hsc2 ne hfin hrow hkf
      by_cases hq1 : idle < N
      · have hq2 : ¬ ((lo : Int) < (M : Int)) := by omega
        have hq3 : (idle : Int) < (N : Int) := by omega
        clear hgo hgo'
        go_upto_region 15 with fail
        refine wp_region_noPanic ?_
        refine wp_region_anyN (fun w' => w'.cell? ⟨b0, 0, none⟩ = some (.int .i64 (N : Int)) ∧ w'.cell? ⟨b0, 1, none⟩ = some (.slice A1 s1.ts.length ca1) ∧ w'.cell? ⟨b0, 2, none⟩ = some (.slice B1 s1.cur.length cb1)) 4 (by kernel_rfl) ?_
        have hS : wr.drew.cell? ⟨b0, 0, none⟩ = some (.int .i64 (N : Int)) ∧ wr.drew.cell? ⟨b0, 1, none⟩ = some (.slice A1 s1.ts.length ca1) ∧ wr.drew.cell? ⟨b0, 2, none⟩ = some (.slice B1 s1.cur.length cb1) := ⟨x0, x1, x2⟩
        have m0' : wr.drew.cell? ⟨bR, 0, none⟩ = some (.int .i64 0) := m0
        have m1' : wr.drew.cell? ⟨bR, 1, none⟩ = some (.slice none 0 0) := m1
        have m2' : wr.drew.cell? ⟨bR, 2, none⟩ = some (.slice none 0 0) := m2
        have mf' : ∀ o, wr.drew.frozen? ⟨bR, o, none⟩ = false := mf
        have ml' : bR < wr.drew.heap.size := ml
        have xl' : b0 < wr.drew.heap.size := xl
        clear x0 x1 x2 xl m0 m1 m2 mf ml HRS HSC1 HLIM HFAIL HT1
        generalize wr.drew = w0 at *
        refine anyN_takeR 0 (v := ?_) rfl (by kernel_rfl) (by kernel_rfl) (by kernel_rfl) (by kernel_rfl) (fun _ _ _ h => h) (Or.inl ⟨by rfl, ?_⟩) hS ?_
        rotate_left
        · intro w hSw
          obtain ⟨_, _, _⟩ := hSw
          go_simp
          try with_reducible rfl
        simp only [Act.put, List.setIfInBounds_toArray, List.set_cons_zero, List.set_cons_succ]
        refine anyN_takeR 1 (v := ?_) rfl (by kernel_rfl) (by kernel_rfl) (by kernel_rfl) (by kernel_rfl) (fun _ _ _ h => h) (Or.inl ⟨by rfl, ?_⟩) hS ?_
        rotate_left
        · intro w hSw
          obtain ⟨_, _, _⟩ := hSw
          go_simp
          try with_reducible rfl
        simp only [Act.put, List.setIfInBounds_toArray, List.set_cons_zero, List.set_cons_succ]
        refine anyN_one 2 rfl (by kernel_rfl) rfl ?_
        go_simp
        first | refine and_keep hS (fun _ => ?_) | skip
        refine anyN_one 3 rfl (by kernel_rfl) rfl ?_
        go_simp
        refine anyN_one 4 rfl (by kernel_rfl) rfl ?_
        go_simp
        refine anyN_done (by kernel_rfl) ?_
        refine NoPanic.normal ?_
        clear m0' m1' m2' mf' ml' xl' hS
        generalize World.setCell _ _ _ = w9 at *
        go_wp2_with fail
        obtain ⟨⟨m0, m1, m2, ml⟩, p1, p2, p3⟩ := PP.out
        refine bodyPost_ret (v := .tuple #[.slice Av lo cv, .agg #[.int .i64 (N : Int), .slice A1 s1.ts.length ca1, .slice B1 s1.cur.length cb1], .int .i64 0]) (by simp [results, Try.results47, go_sem, m0, m1, m2]) rfl ?_
        rw [HE1.out, HE2.out]
        refine ⟨_, A1, ca1, B1, cb1, ?_, p2, p1, p3⟩
        dsimp only
        rw [HS1.out, HLO.out]
      · have hq3 : ¬ ((idle : Int) < (N : Int)) := by omega
        clear hgo hgo'
        go_upto_region 15 with fail
        refine wp_region_noPanic ?_
        refine wp_region_anyN (fun w' => w'.cell? ⟨b0, 0, none⟩ = some (.int .i64 (N : Int)) ∧ w'.cell? ⟨b0, 1, none⟩ = some (.slice A1 s1.ts.length ca1) ∧ w'.cell? ⟨b0, 2, none⟩ = some (.slice B1 s1.cur.length cb1)) 4 (by kernel_rfl) ?_
        have hS : wr.drew.cell? ⟨b0, 0, none⟩ = some (.int .i64 (N : Int)) ∧ wr.drew.cell? ⟨b0, 1, none⟩ = some (.slice A1 s1.ts.length ca1) ∧ wr.drew.cell? ⟨b0, 2, none⟩ = some (.slice B1 s1.cur.length cb1) := ⟨x0, x1, x2⟩
        have m0' : wr.drew.cell? ⟨bR, 0, none⟩ = some (.int .i64 0) := m0
        have m1' : wr.drew.cell? ⟨bR, 1, none⟩ = some (.slice none 0 0) := m1
        have m2' : wr.drew.cell? ⟨bR, 2, none⟩ = some (.slice none 0 0) := m2
        have mf' : ∀ o, wr.drew.frozen? ⟨bR, o, none⟩ = false := mf
        have ml' : bR < wr.drew.heap.size := ml
        have xl' : b0 < wr.drew.heap.size := xl
        clear x0 x1 x2 xl m0 m1 m2 mf ml HRS HSC1 HLIM HFAIL HT1
        generalize wr.drew = w0 at *
        refine anyN_takeR 0 (v := ?_) rfl (by kernel_rfl) (by kernel_rfl) (by kernel_rfl) (by kernel_rfl) (fun _ _ _ h => h) (Or.inl ⟨by rfl, ?_⟩) hS ?_
        rotate_left
        · intro w hSw
          obtain ⟨_, _, _⟩ := hSw
          go_simp
          try with_reducible rfl
        simp only [Act.put, List.setIfInBounds_toArray, List.set_cons_zero, List.set_cons_succ]
        refine anyN_takeR 1 (v := ?_) rfl (by kernel_rfl) (by kernel_rfl) (by kernel_rfl) (by kernel_rfl) (fun _ _ _ h => h) (Or.inl ⟨by rfl, ?_⟩) hS ?_
        rotate_left
        · intro w hSw
          obtain ⟨_, _, _⟩ := hSw
          go_simp
          try with_reducible rfl
        simp only [Act.put, List.setIfInBounds_toArray, List.set_cons_zero, List.set_cons_succ]
        refine anyN_one 2 rfl (by kernel_rfl) rfl ?_
        go_simp
        first | refine and_keep hS (fun _ => ?_) | skip
        refine anyN_one 3 rfl (by kernel_rfl) rfl ?_
        go_simp
        refine anyN_one 4 rfl (by kernel_rfl) rfl ?_
        go_simp
        refine anyN_done (by kernel_rfl) ?_
        refine NoPanic.normal ?_
        clear m0' m1' m2' mf' ml' xl' hS
        generalize World.setCell _ _ _ = w9 at *
        go_wp2_with fail
        obtain ⟨⟨m0, m1, m2, ml⟩, p1, p2, p3⟩ := PP.out
        refine bodyPost_ret (v := .tuple #[.slice Av lo cv, .agg #[.int .i64 (N : Int), .slice A1 s1.ts.length ca1, .slice B1 s1.cur.length cb1], .int .i64 0]) (by simp [results, Try.results47, go_sem, m0, m1, m2]) rfl ?_
        rw [HE1.out, HE2.out]
        refine ⟨_, A1, ca1, B1, cb1, ?_, p2, p1, p3⟩
        dsimp only
        rw [HS1.out, HLO.out]
    · obtain ⟨hg1, hg2⟩ := hgo
      have hgi : (idle : Int) < (N : Int) := by omega
      have hgl : (lo : Int) < (M : Int) := by omega
      have hcb : -9223372036854775808 ≤ (cc : Int) ∧ (cc : Int) ≤ 9223372036854775807 := by omega
      have HPU0 := refPull_any wr (ca := ca1) (cb := cb1) (cpu := (cc : Int)) HSC1.out hcb.1 hcb.2
      rw [HS1.out] at HPU0
      obtain ⟨pv, hpv⟩ : ∃ pv, pv = pullV s1 (cc : Int) := ⟨_, rfl⟩
      rw [← hpv] at HPU0
      have HPV := Lib.hid hpv
      have HPU := Lib.hid HPU0
      clear hpv HPU0 hcb
      obtain ⟨⟨mk, mx, my⟩, pe⟩ := pv
      dsimp only at HPU
      go_wp2_with fail
      (with_reducible refine HPU.out.mono ?_)
      clear x0 x1 x2 xl HPU
      rintro e w5 ⟨rfl, hk5⟩
      have kk5 : Kp w5.heap.size w5 (w5.alloc (.cells #[.int .i64 mk, .int .i64 mx, .int .i64 my] 89)) := (Kp.refl _ _).alloc (Nat.le_refl _) _
      have HB6 := Lib.hid (C3.new w5 (.int .i64 mk) (.int .i64 mx) (.int .i64 my) 89)
      have HR6 := Lib.hid ((HRS.out.kps hk5).kps kk5)
      have HSC6 := Lib.hid ((HSC1.out.kp hk5).kp kk5)
      obtain ⟨bm, hbm⟩ : ∃ b, b = w5.heap.size := ⟨_, rfl⟩
      have dm0 : bm ≠ b0 := by have := (HRS.out.kps hk5).fs.1; omega
      go_upto_region 9 with fail
      rw [← hbm] at HB6
      rw [← hbm]
      clear kk5 hbm hk5 HRS HSC1
      generalize w5.alloc _ = w6 at *
      by_cases hpe : pe = 0
      rotate_left
      · have hpe2 : (pe == 0) = false := beq_eq_false_iff_ne.2 hpe
        have hp2 : (pullV s1 (cc : Int)).2 ≠ 0 := by rw [← HPV.out]; exact hpe
        have hsk := HLIM.out
        rw [← HCC.out] at hsk
        have hsk2 := Lib.hid (hsk.skips hp2)
        have hmod : ((cc : Int) + 1) % (N : Int) = (((cc + 1) % N : Nat) : Int) := by norm_cast
        have hmod2 : Int.tmod ((cc : Int) + 1) (N : Int) = (((cc + 1) % N : Nat) : Int) := by rw [Int.tmod_eq_emod_of_nonneg (by omega), hmod]
        have hN0 : (N : Int) ≠ 0 := by omega
        have hN00 : ((N : Int) == 0) = false := beq_eq_false_iff_ne.2 hN0
        have hstep : (cc + 1) % N = (b + (idle + 1)) % N := by rw [HCC.out, Nat.mod_add_mod, Nat.add_assoc]
        have HSTEP := Lib.hid hstep
        have HP2 := Lib.hid hp2
        obtain ⟨A1', ca1', B1', cb1', hx1, -⟩ := HR6.out.sc
        rw [HS1.out] at hx1
        obtain ⟨x0, x1, x2, xl⟩ := hx1
        generalize hc2 : (cc + 1) % N = c2 at *
        clear hsk hpe hp2 hstep hc2
        go_wp2_with fail
        clear x0 x1 x2 xl
        go_roundw
        case rel =>
          refine ⟨s1, out, idle + 1, b, by go_num, by rw [← HSTEP.out], by omega, hb, by rw [← HLO.out]; exact hoM, HS1.out, by rw [← HSTEP.out]; exact hsk2.out, fun d hd => ?_, by rw [HLO.out]; exact HR6.out⟩
          rcases Nat.lt_or_ge d idle with h1 | h1
          · exact HFAIL.out d h1
          · rw [show d = idle by omega, ← HCC.out]; exact HP2.out
        case measure => simp [intOf]; omega
      · subst hpe
        have hp2 : (pullV s1 (cc : Int)).2 = 0 := by rw [← HPV.out]
        have hpu := HLIM.out
        rw [← HCC.out] at hpu
        have hlim2 := hpu.pulls hccN (by rw [← HLO.out]; exact hg2) hp2
        obtain ⟨hrs1, hdo, _⟩ := pull_ok hp2
        have hnf : (nextS s1 (cc : Int)).fit ∧ (nextS s1 (cc : Int)).n = s1.n := by
          refine ⟨?_, (next_keeps hp2).1⟩
          unfold nextS doV
          rw [if_pos hrs1, if_pos hdo]
          exact fit_move ((rightS_iff s1).1 hrs1) hdo
        rw [← HPV.out] at hlim2 hdo
        have hdv : doV s1 mk mx my = (nextS s1 (cc : Int), 0) := by
          unfold nextS
          rw [← HPV.out]
          dsimp only
          unfold doV
          rw [if_pos hrs1, if_pos hdo]
        have HLM := Lib.hid hlim2
        have HNF := Lib.hid hnf
        have hfit1 := HR6.out.fit
        have hlen1 := hfit1.len
        obtain ⟨A6, ca6, B6, cb6, hx6, hs6, ha6, hb6, ht6, hu6⟩ := HR6.out.sc
        have HDO0 := refDo_any w6 (k := mk) (x := mx) (y := my) (cb := cb6) (ca := ca6) hs6 hb6 (by omega)
        rw [HS1.out, hdv] at HDO0
        rw [HS1.out] at hx6
        have HU6 := Lib.hid hu6
        generalize nextS s1 (cc : Int) = s2 at *
        have HDO := Lib.hid HDO0
        obtain ⟨x0, x1, x2, xl⟩ := hx6
        have xf := HR6.out.fs.2
        obtain ⟨y0, y1, y2, yl⟩ := HB6.out
        clear hlim2 hnf hp2 hpu hrs1 hdo hfit1 hlen1 HDO0 hs6 ha6 hb6 ht6 hu6 hdv HSC6
        go_wp2_with fail
        (with_reducible refine HDO.out.mono ?_)
        clear x0 x1 x2 xl xf y0 y1 y2 yl HDO
        rintro e w7 ⟨v7, rfl, hsc7⟩
        obtain ⟨A7, ca7, B7, cb7, rfl, hs7, ha7, hb7, hk7, hd7, hty7⟩ := hsc7
        dsimp only at hs7 ha7 hb7
        have HR7 := Lib.hid (HR6.out.kps hk7)
        have HB7 := Lib.hid (HB6.out.kp hk7)
        have W0' : W.heap.size ≤ b0 := W0
        have HR8 := Lib.hid (HR7.out.store d0R W0 hs7 ha7 hb7 hty7 (fun p hp => by
          rcases hd7 with h | ⟨h, _⟩
          · rw [h] at hp; cases hp
          · exact HU6.out p (h ▸ hp)) HNF.out.1)
        have HB8 := Lib.hid (((HB7.out.far (p := ⟨b0, 0, none⟩) dm0.symm (.int .i64 s2.n)).far (p := ⟨b0, 1, none⟩) dm0.symm (.slice A7 s2.ts.length ca7)).far (p := ⟨b0, 2, none⟩) dm0.symm (.slice B7 s2.cur.length cb7))
        obtain ⟨A9, ca9, B9, cb9, hx9, _⟩ := HR7.out.sc
        obtain ⟨x0, x1, x2, xl⟩ := hx9
        have xf := HR7.out.fs.2
        clear hk7 hs7 ha7 hb7 hd7 hty7 HR6 HB6 HR7 HB7 HU6 W0'
        go_upto_region 11 with fail
        clear x0 x1 x2 xl xf
        generalize World.setCell _ _ _ = w8 at *
        obtain ⟨y0, y1, y2, yl⟩ := HB8.out
        have hw8 := HR8.out.kp.size
        have HF8 := Lib.hid (show flatM [(mk, mx, my)] = [.int .i64 mk, .int .i64 mx, .int .i64 my] from rfl)
        go_wp2_with (at_builtin; refine wpList_append_rd _ rfl _ _ 94 rfl W.heap.size 89 i0 (.agg #[.int .i64 0, .int .i64 0, .int .i64 0]) 3 24 Try.underlying94 HI.out HZ0.out HZ1.out HZ2.out rfl (by decide) _ lo (flatM out) rfl ?qc1 (some ⟨w8.heap.size, 0, none⟩) 1 1 (flatM [(mk, mx, my)]) rfl ?qc2 (oneCellsM [(mk, mx, my)]) ?qc4 ?qc5 ?qc6 ?_)
        case qc1 =>
          have h := own_kp HR8.out.row ((Kp.refl _ w8).alloc (Nat.le_refl _) (.cells #[.int .i64 mk, .int .i64 mx, .int .i64 my] 89))
          rw [← HLO.out] at h
          exact h
        case qc2 =>
          rw [HF8.out]
          exact rd_new w8 _ 89 3 1 rfl
        case qc4 => unfold maxLen; omega
        case qc5 => omega
        case qc6 => simp; omega
        intro v9 w9 hown9 hgrow9
        clear y0 y1 y2 yl
        have HP9 := Lib.hid ((HR8.out.kps ((Kp.refl _ w8).alloc (Nat.le_refl _) (.cells #[.int .i64 mk, .int .i64 mx, .int .i64 my] 89))).grown (m := (mk, mx, my)) (by rw [← HLO.out]; exact hgrow9) (by rw [← HLO.out]; exact hown9))
        clear hown9 hgrow9 HR8 HB8
        have HL9 := Lib.hid (show (out ++ [(mk, mx, my)]).length = lo + 1 by rw [List.length_append, ← HLO.out]; rfl)
        have hv9 : lenOf v9 = lo + 1 := by
          obtain ⟨_, _, e9, _⟩ := own_form HP9.out.row
          rw [e9, ← HL9.out]
          rfl
        have HV9 := Lib.hid hv9
        clear hv9
        go_wp2_with fail
        go_roundw
        case rel => exact ⟨s2, out ++ [(mk, mx, my)], 0, cc, rfl, by rw [Nat.add_zero, Nat.mod_eq_of_lt hccN], Nat.zero_le _, hccN, by rw [HL9.out]; omega, HNF.out.2.trans HS1.out, by rw [Nat.add_zero, Nat.mod_eq_of_lt hccN]; exact HLM.out, (fun d hd => absurd hd (Nat.not_lt_zero d)), HP9.out⟩
        case measure =>
          show (M - lenOf v9) * (N + 1) + (N - 0) < (M - lo) * (N + 1) + (N - (intOf (.int .i64 (idle : Int))).toNat)
          rw [HV9.out]
          have e1 : M - lo = (M - (lo + 1)) + 1 := by omega
          rw [e1, Nat.succ_mul]
          omega
end Go.Proofs.Yticgdfbknaholaa
