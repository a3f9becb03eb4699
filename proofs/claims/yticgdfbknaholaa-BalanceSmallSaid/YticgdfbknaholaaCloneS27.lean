/-
  The contract of a scene's clone.
-/
import Derived.Test.YticgdfbknaholaaClone27
namespace Go.Proofs.Yticgdfbknaholaa
open Go.RowKit

set_option maxRecDepth 100000 in
set_option maxHeartbeats 2000000 in
theorem clone_any (W : World) {A B : Option Addr} {la ca lb cb : Nat} {s : Sc} (h : ScAt W A la B lb s) (hA : A = none → ca = 0) (hB : B = none → cb = 0) (hla : la ≤ 65536) (hlb : lb ≤ 65536) :
    Calls Try.prog 30 #[.agg #[.int .i64 s.n, .slice A la ca, .slice B lb cb]] W fun e w' => ∃ A' ca' B' cb', e = .returned (.agg #[.int .i64 s.n, .slice A' la ca', .slice B' lb cb']) ∧ ScAt w' A' la B' lb s ∧ OwnSl w' W.heap.size 43 A' la ca' ∧ OwnSl w' W.heap.size 3 B' lb cb' ∧ (∀ p p', A' = some p → B' = some p' → p.block ≠ p'.block) ∧ Kp W.heap.size W w' := by
  have H1 := fun w (k : Kp W.heap.size W w) => Lib.hid (cloneT_any w A la ca s.ts h.hla (fun e => ⟨hA e, h.ts.nil0 e⟩) (h.ts.kp k) (by omega))
  have H2 := fun w (k : Kp W.heap.size W w) => Lib.hid (cloneI_any w B lb cb s.cur h.hlb (fun e => ⟨hB e, isInts_nil0 h.cur e⟩) (h.cur.below k) (by omega))
  have HS := Lib.hid h
  have K0 := Lib.hid (((Kp.refl W.heap.size W).alloc (Nat.le_refl _) (.cells #[.int .i64 s.n, .slice A la ca, .slice B lb cb] 30)).alloc (by rw [World.size_alloc]; omega) (.cells #[.int .i64 0, .slice none 0 0, .slice none 0 0] 30))
  have HX := Lib.hid ((C3.new W (.int .i64 s.n) (.slice A la ca) (.slice B lb cb) 30).alloc (.cells #[.int .i64 0, .slice none 0 0, .slice none 0 0] 30))
  have HM0 := C3.new (W.alloc (.cells #[.int .i64 s.n, .slice A la ca, .slice B lb cb] 30)) (.int .i64 0) (.slice none 0 0) (.slice none 0 0) 30
  have HZ0 := Fz.new (W.alloc (.cells #[.int .i64 s.n, .slice A la ca, .slice B lb cb] 30)) #[.int .i64 0, .slice none 0 0, .slice none 0 0] 30
  simp only [World.size_alloc] at HM0 HZ0
  have HM := Lib.hid HM0
  have HZ := Lib.hid HZ0
  clear h HM0 HZ0 hA hB hla hlb
  obtain ⟨n, ts, cur⟩ := s
  dsimp only at *
  go_enter Try.func30, Try.ntmps30
  go_upto_region 1 with fail
  generalize (W.alloc _).alloc _ = w1 at *
  obtain ⟨bS, hbS⟩ : ∃ b, b = W.heap.size := ⟨_, rfl⟩
  obtain ⟨bM, hbM⟩ : ∃ b, b = W.heap.size + 1 := ⟨_, rfl⟩
  rw [← hbS] at HX
  rw [← hbM] at HM HZ
  rw [← hbM, ← hbS]
  have WM : W.heap.size ≤ bM := by omega
  clear hbS hbM
  refine wp_region_noPanic ?_
  refine wp_region_anyN (fun w' => w'.cell? ⟨bS, 0, none⟩ = some (.int .i64 n) ∧ w'.cell? ⟨bS, 1, none⟩ = some (.slice A la ca) ∧ w'.cell? ⟨bS, 2, none⟩ = some (.slice B lb cb)) 9 (by kernel_rfl) ?_
  have K1 := Lib.hid (show Kp W.heap.size W w1.drew from K0.out.drew)
  have HX1 := Lib.hid (show C3 w1.drew _ _ _ _ from HX.out.drew)
  have HM1 := Lib.hid (show C3 w1.drew _ _ _ _ from HM.out.drew)
  have HZ1 := Lib.hid (show Fz w1.drew _ from HZ.out.drew)
  clear K0 HX HM HZ
  generalize w1.drew = w2 at *
  have hS : w2.cell? ⟨bS, 0, none⟩ = some (.int .i64 n) ∧ w2.cell? ⟨bS, 1, none⟩ = some (.slice A la ca) ∧ w2.cell? ⟨bS, 2, none⟩ = some (.slice B lb cb) := ⟨HX1.out.c0, HX1.out.c1, HX1.out.c2⟩
  have xl := HX1.out.lt
  refine anyN_takeR 0 (v := ?_) rfl (by kernel_rfl) (by kernel_rfl) (by kernel_rfl) (by kernel_rfl) (fun _ _ _ h => h) (Or.inl ⟨by rfl, ?_⟩) hS ?_
  rotate_left
  · intro w hSw
    obtain ⟨_, _, _⟩ := hSw
    go_simp
    try with_reducible rfl
  simp only [Act.put, List.setIfInBounds_toArray, List.set_cons_zero, List.set_cons_succ]
  refine anyN_takeR 1 (v := ?_) rfl (by kernel_rfl) (by kernel_rfl) (by kernel_rfl) (by kernel_rfl) (fun _ _ _ h => h) (Or.inl ⟨by rfl, ?_⟩) hS ?_
  rotate_left
  · intro w hSw
    obtain ⟨_, _, _⟩ := hSw
    go_simp
    try with_reducible rfl
  simp only [Act.put, List.setIfInBounds_toArray, List.set_cons_zero, List.set_cons_succ]
  refine anyN_takeR 2 (v := ?_) rfl (by kernel_rfl) (by kernel_rfl) (by kernel_rfl) (by kernel_rfl) (fun _ _ _ h => h) (Or.inl ⟨by rfl, ?_⟩) hS ?_
  rotate_left
  · intro w hSw
    obtain ⟨_, _, _⟩ := hSw
    go_simp
    try with_reducible rfl
  simp only [Act.put, List.setIfInBounds_toArray, List.set_cons_zero, List.set_cons_succ]
  refine anyN_takeR 3 (v := ?_) rfl (by kernel_rfl) (by kernel_rfl) (by kernel_rfl) (by kernel_rfl) (fun _ _ _ h => h) (Or.inl ⟨by rfl, ?_⟩) hS ?_
  rotate_left
  · intro w hSw
    obtain ⟨_, _, _⟩ := hSw
    go_simp
    try with_reducible rfl
  simp only [Act.put, List.setIfInBounds_toArray, List.set_cons_zero, List.set_cons_succ]
  refine anyN_takeR 5 (v := ?_) rfl (by kernel_rfl) (by kernel_rfl) (by kernel_rfl) (by kernel_rfl) (fun _ _ _ h => h) (Or.inl ⟨by rfl, ?_⟩) hS ?_
  rotate_left
  · intro w hSw
    obtain ⟨_, _, _⟩ := hSw
    go_simp
    try with_reducible rfl
  simp only [Act.put, List.setIfInBounds_toArray, List.set_cons_zero, List.set_cons_succ]
  refine anyN_takeR 6 (v := ?_) rfl (by kernel_rfl) (by kernel_rfl) (by kernel_rfl) (by kernel_rfl) (fun _ _ _ h => h) (Or.inl ⟨by rfl, ?_⟩) hS ?_
  rotate_left
  · intro w hSw
    obtain ⟨_, _, _⟩ := hSw
    go_simp
    try with_reducible rfl
  simp only [Act.put, List.setIfInBounds_toArray, List.set_cons_zero, List.set_cons_succ]
  refine anyN_one 4 rfl (by kernel_rfl) rfl ?_
  go_simp
  clear hS xl
  (with_reducible refine (H1 _ K1.out).out.mono ?_)
  rintro e w3 ⟨v, rfl, hown, hk⟩
  obtain ⟨A', ca', rfl, hsl, hrd⟩ := own_sl hown
  have HT1 := Lib.hid (hrd.tks HS.out.hla)
  have K2 := Lib.hid (K1.out.trans (hk.mono K1.out.size))
  have HX2 := Lib.hid (HX1.out.kp hk)
  have HM2 := Lib.hid (HM1.out.kp hk)
  have HZ2 := Lib.hid (HZ1.out.kp hk)
  have hsz := hk.size
  have HSL0 : OwnSl w3 w2.heap.size 43 A' la ca' := hsl
  have HSL := Lib.hid HSL0
  have hml := HM1.out.lt
  have hw2 : W.heap.size ≤ w2.heap.size := K1.out.size
  clear hk K1 HX1 HM1 HZ1 hown hrd hsl HSL0
  dsimp only
  refine and_keep ⟨HX2.out.c0, HX2.out.c1, HX2.out.c2⟩ (fun hS => ?_)
  have xl := HX2.out.lt
  refine anyN_one 7 rfl (by kernel_rfl) rfl ?_
  go_simp
  clear hS xl
  (with_reducible refine (H2 _ K2.out).out.mono ?_)
  rintro e w4 ⟨v, rfl, hown, hk⟩
  obtain ⟨B', cb', rfl, hsl, hrd⟩ := own_sl hown
  have K3 := Lib.hid (K2.out.trans (hk.mono K2.out.size))
  have HX3 := Lib.hid (HX2.out.kp hk)
  have HM3 := Lib.hid (HM2.out.kp hk)
  have HZ3 := Lib.hid (HZ2.out.kp hk)
  have HT2 := Lib.hid (HT1.out.kp hk)
  have HSL2 := Lib.hid (HSL.out.kp hk)
  have HI2 := Lib.hid (Rd.isInts hrd).2
  have HSB := Lib.hid hsl
  have hdis : ∀ p p', A' = some p → B' = some p' → p.block ≠ p'.block := fun p p' h1 h2 => by
    obtain ⟨g, rfl, _, g3, _⟩ := HSL.out.at0 p h1
    obtain ⟨g', rfl, g4, _, _⟩ := HSB.out.at0 p' h2
    dsimp only
    omega
  have HD := Lib.hid hdis
  have dMA : ∀ p, A' = some p → p.block ≠ bM := fun p h1 => by
    obtain ⟨g, rfl, g2, _, _⟩ := HSL.out.at0 p h1
    dsimp only
    omega
  have dMB : ∀ p, B' = some p → p.block ≠ bM := fun p h1 => by
    obtain ⟨g, rfl, g2, _, _⟩ := HSB.out.at0 p h1
    dsimp only
    omega
  have hw3 : W.heap.size ≤ w3.heap.size := Nat.le_trans hw2 hsz
  have HDA := Lib.hid dMA
  have HDB := Lib.hid dMB
  clear hk K2 HX2 HM2 HZ2 HT1 HSL hown hrd hsl hdis dMA dMB
  obtain ⟨m0, m1, m2, ml⟩ := HM3.out
  have mf := HZ3.out.2
  dsimp only
  refine and_keep ⟨HX3.out.c0, HX3.out.c1, HX3.out.c2⟩ (fun hS => ?_)
  refine anyN_one 8 rfl (by kernel_rfl) rfl ?_
  go_simp
  first | refine and_keep hS (fun _ => ?_) | skip
  refine anyN_one 9 rfl (by kernel_rfl) rfl ?_
  go_simp
  refine anyN_done (by kernel_rfl) ?_
  refine NoPanic.normal ?_
  have P := And.intro (HM3.out.set (.int .i64 n) (.slice A' la ca') (.slice B' lb cb')) (And.intro (((K3.out.setCell (p := ⟨bM, 0, none⟩) WM (.int .i64 n)).setCell (p := ⟨bM, 1, none⟩) WM (.slice A' la ca')).setCell (p := ⟨bM, 2, none⟩) WM (.slice B' lb cb')) (((Kx.refl 0 0 bM (bM + 1) w4).setCell (p := ⟨bM, 0, none⟩) (Nat.le_refl _) (Nat.lt_succ_self _) (.int .i64 n)).setCell (p := ⟨bM, 1, none⟩) (Nat.le_refl _) (Nat.lt_succ_self _) (.slice A' la ca') |>.setCell (p := ⟨bM, 2, none⟩) (Nat.le_refl _) (Nat.lt_succ_self _) (.slice B' lb cb')))
  clear m0 m1 m2 ml mf
  generalize World.setCell _ _ _ = w9 at *
  obtain ⟨⟨m0, m1, m2, ml⟩, K, hkx⟩ := P
  go_wp2_with fail
  refine bodyPost_ret (v := .agg #[.int .i64 n, .slice A' la ca', .slice B' lb cb']) (by simp [results, Try.results30, go_sem, m0, m1, m2]) rfl ?_
  have ne : ∀ k, k ≠ bM → (k < bM ∨ bM + 1 ≤ k) := fun k h => by omega
  refine ⟨A', ca', B', cb', rfl, ⟨HS.out.hla, HS.out.hlb, fun i hi => ?_, fun i hi => ?_, HS.out.ok, HS.out.lam, HS.out.lbm⟩, ⟨HSL2.out.le, HSL2.out.max, HSL2.out.nil, fun p hp => ?_⟩, ⟨HSB.out.le, HSB.out.max, HSB.out.nil, fun p hp => ?_⟩, HD.out, K⟩
  · obtain ⟨b, off, e, T⟩ := HT2.out i hi
    exact ⟨b, off, e, T.kx hkx (Or.inr (Nat.zero_le _)) (ne b (HDA.out _ e))⟩
  · obtain ⟨b, off, e, hb, T⟩ := HI2.out i hi
    exact ⟨b, off, e, Nat.lt_of_lt_of_le hb hkx.size, (hkx.cell (p := ⟨b, off + i, none⟩) hb (Or.inr (Nat.zero_le _)) (ne b (HDB.out _ e))).trans T⟩
  · obtain ⟨g, g1, g2, g3, g4, g5⟩ := HSL2.out.at0 p hp
    subst g1
    exact ⟨g, rfl, Nat.le_trans hw2 g2, Nat.lt_of_lt_of_le g3 hkx.size, fun o => (hkx.frozen (p := ⟨g, o, none⟩) g3 (Or.inr (Nat.zero_le _)) (ne g (HDA.out _ hp))).trans (g4 o), g5.kx hkx (Or.inr (Nat.zero_le _)) (ne g (HDA.out _ hp))⟩
  · obtain ⟨g, g1, g2, g3, g4, g5⟩ := HSB.out.at0 p hp
    subst g1
    exact ⟨g, rfl, Nat.le_trans hw3 g2, Nat.lt_of_lt_of_le g3 hkx.size, fun o => (hkx.frozen (p := ⟨g, o, none⟩) g3 (Or.inr (Nat.zero_le _)) (ne g (HDB.out _ hp))).trans (g4 o), g5.kx hkx (Or.inr (Nat.zero_le _)) (ne g (HDB.out _ hp))⟩
end Go.Proofs.Yticgdfbknaholaa
