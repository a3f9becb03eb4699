/-
  The law on moves there and back.
-/
import Derived.Test.YticgdfbknaholaaMadeAt27
import Derived.Test.YticgdfbknaholaaMovesV27
import Derived.Test.YticgdfbknaholaaEqualT27
namespace Go.Proofs.Yticgdfbknaholaa
open Go.RowKit

set_option maxRecDepth 100000 in
set_option maxHeartbeats 4000000 in
theorem law9 {W : World} {A B : Option Addr} {la ca lb cb : Nat} {a which cpu : Int} {xs : List Xt} {zs : List Int} (h : SmAt W A la ca B lb cb a xs zs) (d0 : 0 ≤ which) (d1 : which ≤ 255) (c0 : 0 ≤ cpu) (c1 : cpu ≤ 255) :
    Calls Try.prog 9 #[.agg #[.int .u8 a, .slice A la ca, .slice B lb cb], .int .u8 which, .int .u8 cpu] W fun e w' => e = .returned (.bool true) ∧ Kp W.heap.size W w' := by
  have HAw := fun w => Lib.hid (awake_any w)
  have HX := Lib.hid h
  have HMd := fun w (k : Kp W.heap.size W w) => Lib.hid (madeSc_any w (h.kp k))
  clear h
  have K0 := Lib.hid ((Kp.refl W.heap.size W).alloc (Nat.le_refl _) (.cells #[.int .u8 a, .slice A la ca, .slice B lb cb] 25))
  have X0 := Lib.hid (C3.new W (.int .u8 a) (.slice A la ca) (.slice B lb cb) 25)
  go_enter Try.func9, Try.ntmps9
  go_upto_region 1 with fail
  generalize W.alloc _ = w1 at *
  obtain ⟨bX, hbX⟩ : ∃ b, b = W.heap.size := ⟨_, rfl⟩
  rw [← hbX] at X0
  rw [← hbX]
  clear hbX
  go_wp2_with fail
  (with_reducible refine (HAw _).out.mono ?_)
  rintro e w2 ⟨rfl, hk⟩
  have K2 := Lib.hid (K0.out.trans (hk.mono K0.out.size))
  have X2 := Lib.hid (X0.out.kp hk)
  clear hk K0 X0 HAw
  obtain ⟨x0, x1, x2, xl⟩ := X2.out
  go_wp2_with fail
  (with_reducible refine (HMd _ K2.out).out.mono ?_)
  clear x0 x1 x2 xl HMd
  rintro e w3 ⟨v, N, la', A', B', ca', cb', ts, cur, rfl, hm⟩
  obtain ⟨rfl, hsc, hfit, n1, n8, l40, hrow, hcow, hk⟩ := hm
  have hAn := Lib.hid (own_nil hrow)
  have hBn := Lib.hid (own_nil hcow)
  clear hrow hcow
  have K3 := Lib.hid (K2.out.trans (hk.mono K2.out.size))
  clear hk K2 X2
  go_upto_region 4 with fail
  have kk : Kp w3.heap.size w3 (w3.alloc (.cells #[.int .i64 (N : Int), .slice A' la' ca', .slice B' N cb'] 30)) := (Kp.refl _ _).alloc (Nat.le_refl _) _
  have HS := Lib.hid (C3.new w3 (.int .i64 (N : Int)) (.slice A' la' ca') (.slice B' N cb') 30)
  have HSC := Lib.hid (hsc.kp kk)
  have K4 := Lib.hid (K3.out.trans (kk.mono K3.out.size))
  have HF := Lib.hid hfit
  obtain ⟨bS, hbS⟩ : ∃ b, b = w3.heap.size := ⟨_, rfl⟩
  rw [← hbS] at HS
  rw [← hbS]
  clear kk hsc hfit K3 hbS
  generalize w3.alloc _ = w4 at *
  obtain ⟨x0, x1, x2, xl⟩ := HS.out
  by_cases hl0 : la' = 0
  · subst hl0
    go_wp2_with fail
    go_ret
    exact ⟨rfl, K4.out⟩
  have hl1 : ((la' : Int) == 0) = false := beq_eq_false_iff_ne.2 (by omega)
  have hl2 : (la' : Int) ≠ 0 := by omega
  obtain ⟨i, hi⟩ : ∃ i : Nat, which % (la' : Int) = (i : Int) := ⟨(which % (la' : Int)).toNat, by have := Int.emod_nonneg which hl2; omega⟩
  have hil : i < la' := by have := Int.emod_lt_of_pos which (show (0 : Int) < la' by omega); omega
  have hi2 : Int.tmod which (la' : Int) = (i : Int) := by rw [Int.tmod_eq_emod_of_nonneg d0, hi]
  obtain ⟨q, hq⟩ : ∃ q : Nat, cpu % (N : Int) = (q : Int) := ⟨(cpu % (N : Int)).toNat, by have := Int.emod_nonneg cpu (show (N : Int) ≠ 0 by omega); omega⟩
  have hqN : q < N := by have := Int.emod_lt_of_pos cpu (show (0 : Int) < N by omega); omega
  have hq2 : Int.tmod cpu (N : Int) = (q : Int) := by rw [Int.tmod_eq_emod_of_nonneg c0, hq]
  have hN0 : (N : Int) ≠ 0 := by omega
  have hN00 : ((N : Int) == 0) = false := beq_eq_false_iff_ne.2 hN0
  have hii : (i : Int) < (la' : Int) := by omega
  have hits : i < ts.length := by have := HSC.out.hla; dsimp only at this; omega
  obtain ⟨b, off, rfl, T⟩ := HSC.out.ts i hil
  dsimp only at T
  have hmem := getD_mem' (ts := ts) (j := i) hits
  have hft := HF.out.each _ hmem
  have hok := HSC.out.ok _ hmem
  obtain ⟨t, ht⟩ : ∃ t, t = ts.getD i t0 := ⟨_, rfl⟩
  have HT := Lib.hid ht.symm
  rw [← ht] at T hft hok
  clear ht hmem
  obtain ⟨id, grp, wt, tc, mask, rdy, v, r⟩ := t
  have m0 := hok.mask0
  have m1 := hok.mask1
  have t0' := hft.cpu0
  have t1' := hft.cpu1
  dsimp only at m0 m1 t0' t1'
  obtain ⟨p, rfl⟩ : ∃ p : Nat, tc = (p : Int) := ⟨tc.toNat, by omega⟩
  have hpN : p < N := by omega
  have hpi : (p : Int) < (N : Int) := by omega
  clear hft hok t0' t1'
  obtain ⟨y0, y1, y2, y3, y4, y5, y6, y7, yl⟩ := T
  dsimp only at y0 y1 y2 y3 y4 y5 y6 y7
  go_upto_region 8 with fail
  clear y0 y1 y2 y3 y4 y5 y6 y7 yl x0 x1 x2 xl
  have kk : Kp w4.heap.size w4 (w4.alloc (.cells (tkc ⟨id, grp, wt, (p : Int), mask, rdy, v, r⟩) 43)) := (Kp.refl _ _).alloc (Nat.le_refl _) _
  have HTK := Lib.hid (TkAt.new w4 ⟨id, grp, wt, (p : Int), mask, rdy, v, r⟩ 43)
  have HS5 := Lib.hid (HS.out.kp kk)
  have HSC5 := Lib.hid (HSC.out.kp kk)
  have K5 := Lib.hid (K4.out.trans (kk.mono K4.out.size))
  obtain ⟨bT, hbT⟩ : ∃ b, b = w4.heap.size := ⟨_, rfl⟩
  rw [← hbT] at HTK
  rw [← hbT]
  clear kk HS HSC K4 hbT
  dsimp only [tkc] at HTK HS5 HSC5 K5
  generalize w4.alloc _ = w5 at *
  obtain ⟨y0, y1, y2, y3, y4, y5, y6, y7, yl⟩ := HTK.out
  simp only [Nat.zero_add] at y0 y1 y2 y3 y4 y5 y6 y7
  obtain ⟨x0, x1, x2, xl⟩ := HS5.out
  go_region
  all_goals go_upto_region 9 with fail
  clear y0 y1 y2 y3 y4 y5 y6 y7 yl x0 x1 x2 xl
  have kk : Kp w5.heap.size w5 (w5.alloc (.cells #[.int .i64 id, .int .i64 (p : Int), .int .i64 (q : Int)] 38)).drew := ((Kp.refl _ _).alloc (Nat.le_refl _) _).drew
  have HM := Lib.hid (C3.new w5 (.int .i64 id) (.int .i64 (p : Int)) (.int .i64 (q : Int)) 38).drew
  have HT6 := Lib.hid (HTK.out.kp kk)
  have HS6 := Lib.hid (HS5.out.kp kk)
  have HSC6 := Lib.hid (HSC5.out.kp kk)
  have K6 := Lib.hid (K5.out.trans (kk.mono K5.out.size))
  obtain ⟨bM, hbM⟩ : ∃ b, b = w5.heap.size := ⟨_, rfl⟩
  rw [← hbM] at HM
  rw [← hbM]
  clear kk HTK HS5 HSC5 K5 hbM
  generalize (w5.alloc _).drew = w6 at *
  have HDO := Lib.hid (do_any w6 (cb := cb') (k := id) (x := (p : Int)) (y := (q : Int)) HSC6.out hAn.out hBn.out)
  obtain ⟨dv, hdv⟩ : ∃ dv, doV ⟨(N : Int), ts, cur⟩ id (p : Int) (q : Int) = dv := ⟨_, rfl⟩
  rw [hdv] at HDO
  have HDV := Lib.hid hdv
  clear hdv
  obtain ⟨s', er⟩ := dv
  obtain ⟨x0, x1, x2, xl⟩ := HS6.out
  obtain ⟨m0', m1', m2', ml'⟩ := HM.out
  go_wp2_with fail
  (with_reducible refine HDO.out.mono ?_)
  clear x0 x1 x2 xl m0' m1' m2' ml' HDO
  rintro e w7 ⟨v7, rfl, hsc7, hk⟩
  obtain ⟨A7, ca7, B7, cb7, rfl, hs7, ha7, hb7, hd7⟩ := hsc7.ex
  dsimp only at hs7 ha7 hb7
  obtain ⟨L7, hL7⟩ : ∃ L, L = s'.ts.length := ⟨_, rfl⟩
  obtain ⟨M7, hM7⟩ : ∃ L, L = s'.cur.length := ⟨_, rfl⟩
  dsimp only
  rw [← hL7] at hs7 ha7
  rw [← hM7] at hs7 hb7
  rw [← hL7, ← hM7]
  have HL7 := Lib.hid hL7
  have HM7' := Lib.hid hM7
  clear hL7 hM7
  have hb6 : b < w6.heap.size := by obtain ⟨b', o', e, T⟩ := HSC6.out.ts i hil; cases e; exact T.lt
  have hS6 : bS < w6.heap.size := HS6.out.lt
  have HA7 := Lib.hid (show ∀ p, A7 = some p → p.block < w7.heap.size from fun p hp => by obtain ⟨g, rfl, _, h3, _⟩ := ha7.at0 p hp; exact h3)
  have HM7 := Lib.hid (HM.out.kp hk)
  have HT7 := Lib.hid (HT6.out.kp hk)
  have HS7 := Lib.hid (HS6.out.kp hk)
  have HSC7 := Lib.hid (HSC6.out.kp hk)
  have K7 := Lib.hid (K6.out.trans (hk.mono K6.out.size))
  have HN7 := Lib.hid (And.intro hs7 (And.intro ha7 (And.intro hb7 hd7)))
  have h6W : W.heap.size ≤ w6.heap.size := K6.out.size
  clear hk hsc7 hs7 ha7 hb7 hd7 HM HT6 HS6 HSC6 K6
  go_upto_region 10 with fail
  have kk : Kp w7.heap.size w7 (w7.alloc (.cells #[.int .i64 s'.n, .slice A7 L7 ca7, .slice B7 M7 cb7] 30)) := (Kp.refl _ _).alloc (Nat.le_refl _) _
  have HC := Lib.hid (C3.new w7 (.int .i64 s'.n) (.slice A7 L7 ca7) (.slice B7 M7 cb7) 30)
  have HCF := Lib.hid (Fz.new w7 #[.int .i64 s'.n, .slice A7 L7 ca7, .slice B7 M7 cb7] 30)
  have HM8 := Lib.hid (HM7.out.kp kk)
  have HT8 := Lib.hid (HT7.out.kp kk)
  have HS8 := Lib.hid (HS7.out.kp kk)
  have HSC8 := Lib.hid (HSC7.out.kp kk)
  have K8 := Lib.hid (K7.out.trans (kk.mono K7.out.size))
  have HN8 := Lib.hid (And.intro (HN7.out.1.kp kk) (And.intro (HN7.out.2.1.kp kk) (And.intro (HN7.out.2.2.1.kp kk) HN7.out.2.2.2)))
  obtain ⟨bC, hbC⟩ : ∃ b, b = w7.heap.size := ⟨_, rfl⟩
  rw [← hbC] at HC HCF HA7
  rw [← hbC]
  clear kk HM7 HT7 HS7 HSC7 K7 HN7 hbC
  generalize w7.alloc _ = w8 at *
  obtain ⟨y0, y1, y2, y3, y4, y5, y6, y7, yl⟩ := HT8.out
  simp only [Nat.zero_add] at y0 y1 y2 y3 y4 y5 y6 y7
  obtain ⟨x0, x1, x2, xl⟩ := HS8.out
  obtain ⟨m0', m1', m2', ml'⟩ := HM8.out
  obtain ⟨z0, z1, z2, zl⟩ := HC.out
  obtain ⟨bc, oc, rfl, hbc, cc⟩ := HSC8.out.cur p hpN
  dsimp only at cc
  have HBAD := Lib.hid (fun h => do_bad HF.out (i := i) (y := (q : Int)) hits HT.out h)
  dsimp only at HBAD
  rw [HDV.out, Int.toNat_natCast] at HBAD
  obtain ⟨cid, hcid⟩ : ∃ cid, cid = cur.getD p 0 := ⟨_, rfl⟩
  rw [← hcid] at HBAD cc
  have HCID := Lib.hid hcid
  clear hcid
  cases rdy
  · have e := HBAD.out (Or.inl rfl)
    cases e
    obtain rfl : L7 = 0 := HL7.out
    go_quiet (fail)
    go_wp2_with fail
    go_ret
    exact ⟨rfl, K8.out.drewN _⟩
  by_cases h1 : cid = id
  · have e := HBAD.out (Or.inr (Or.inl h1))
    cases e
    obtain rfl : L7 = 0 := HL7.out
    have h1' : (cid == id) = true := beq_iff_eq.2 h1
    clear h1
    go_quiet (fail)
    go_wp2_with fail
    go_ret
    exact ⟨rfl, K8.out.drewN _⟩
  have h1' : (cid == id) = false := beq_eq_false_iff_ne.2 h1
  by_cases h2 : q = p
  · have e := HBAD.out (Or.inr (Or.inr (Or.inl (by rw [h2]))))
    cases e
    obtain rfl : L7 = 0 := HL7.out
    subst h2
    go_quiet (fail)
    go_wp2_with fail
    go_ret
    exact ⟨rfl, K8.out.drewN _⟩
  have h2' : ((q : Int) == (p : Int)) = false := beq_eq_false_iff_ne.2 (by omega)
  have hE0 := and_one (mask / 2 ^ q) (by have := (shr_bd (c := (q : Int)) m0 m1).1; rwa [Int.toNat_natCast] at this) (by have := (shr_bd (c := (q : Int)) m0 m1).2; rwa [Int.toNat_natCast] at this)
  have hmod : mask / 2 ^ q % 2 = 0 ∨ mask / 2 ^ q % 2 = 1 := by omega
  by_cases h3 : mask / 2 ^ q % 2 = 0
  · have hh : hasB mask (q : Int) = false := by unfold hasB; rw [Int.toNat_natCast, h3]; rfl
    have e := HBAD.out (Or.inr (Or.inr (Or.inr hh)))
    cases e
    obtain rfl : L7 = 0 := HL7.out
    have h3' : (bits BinOp.and IntKind.u64 (mask / 2 ^ q) 1 == 0) = true := by rw [hE0, h3]; rfl
    clear hE0 hmod h3 hh
    go_quiet (fail)
    go_wp2_with fail
    go_ret
    exact ⟨rfl, K8.out.drewN _⟩
  have h3'' : mask / 2 ^ q % 2 = 1 := by omega
  have hh : hasB mask (q : Int) = true := by unfold hasB; rw [Int.toNat_natCast, h3'']; rfl
  have h3' : (bits BinOp.and IntKind.u64 (mask / 2 ^ q) 1 == 0) = false := by rw [hE0, h3'']; rfl
  have HGOOD := Lib.hid (do_good HF.out (i := i) (y := (q : Int)) hits HT.out (by omega) (by dsimp only; omega) rfl (by dsimp only; rw [Int.toNat_natCast, ← HCID.out]; exact h1) (by dsimp only; omega) hh)
  dsimp only at HGOOD
  rw [HDV.out] at HGOOD
  have e := HGOOD.out.1
  cases e
  obtain rfl : L7 = la' := by rw [HL7.out]; dsimp only; rw [List.length_set]; exact HSC8.out.hla
  obtain rfl : M7 = N := by rw [HM7'.out]; exact HSC8.out.hlb
  obtain ⟨us, hus⟩ : ∃ us, ts.set i (Tk.to ⟨id, grp, wt, (p : Int), mask, true, v, r⟩ (q : Int)) = us := ⟨_, rfl⟩
  rw [hus] at HGOOD HN8
  have HUS := Lib.hid hus
  clear hE0 hmod h3 h3'' hh HBAD HDV hus
  go_quiet (fail)
  go_wp2_with fail
  clear y0 y1 y2 y3 y4 y5 y6 y7 yl x0 x1 x2 xl m0' m1' m2' ml' z0 z1 z2 zl cc
  have kk : Kp w8.heap.size w8 (w8.drewN nq) := (Kp.refl _ _).drewN nq
  have HC9 := Lib.hid (HC.out.kp kk)
  have HCF9 := Lib.hid (HCF.out.kp kk)
  have HM9 := Lib.hid (HM8.out.kp kk)
  have HT9 := Lib.hid (HT8.out.kp kk)
  have HS9 := Lib.hid (HS8.out.kp kk)
  have HSC9 := Lib.hid (HSC8.out.kp kk)
  have K9 := Lib.hid (K8.out.trans (kk.mono K8.out.size))
  have HN9 := Lib.hid (And.intro (HN8.out.1.kp kk) (And.intro (HN8.out.2.1.kp kk) (And.intro (HN8.out.2.2.1.kp kk) HN8.out.2.2.2)))
  clear kk HC HCF HM8 HT8 HS8 HSC8 K8 HN8
  generalize w8.drewN nq = w9 at *
  obtain ⟨y0, y1, y2, y3, y4, y5, y6, y7, yl⟩ := HT9.out
  simp only [Nat.zero_add] at y0 y1 y2 y3 y4 y5 y6 y7
  obtain ⟨x0, x1, x2, xl⟩ := HS9.out
  obtain ⟨m0', m1', m2', ml'⟩ := HM9.out
  obtain ⟨z0, z1, z2, zl⟩ := HC9.out
  obtain ⟨b7, o7, rfl, T7⟩ := HN9.out.1.ts i hil
  have hu : us.getD i t0 = Tk.to ⟨id, grp, wt, (p : Int), mask, true, v, r⟩ (q : Int) := by
    rw [← HUS.out, List.getD_eq_getElem?_getD, List.getElem?_set_self hits]
    rfl
  have HU := Lib.hid hu
  have u3 := T7.c3
  have ul := T7.lt
  rw [hu] at u3
  dsimp only [Tk.to] at u3
  have HEQ := fun n => Lib.hid (equalI_any (w9.drewN n) (A := B7) (B := some ⟨bc, oc, none⟩) (c := cb7) (d := cb') HN9.out.1.hlb HSC9.out.hlb (by omega) (by omega) (HN9.out.1.cur.below ((Kp.refl _ _).drewN n)) (HSC9.out.cur.below ((Kp.refl _ _).drewN n)))
  dsimp only at HEQ
  rw [decide_eq_true (rfl : cur = cur)] at HEQ
  clear hu T7
  go_quiet (with_reducible exact Calls.quiet_of (HEQ _).out)
  clear HEQ y0 y1 y2 y3 y4 y5 y6 y7 yl x0 x1 x2 xl m0' m1' m2' ml' z0 z1 z2 zl u3 ul
  have kk : Kp w9.heap.size w9 (w9.drewN nq) := (Kp.refl _ _).drewN nq
  have HC10 := Lib.hid (HC9.out.kp kk)
  have HCF10 := Lib.hid (HCF9.out.kp kk)
  have HM10 := Lib.hid (HM9.out.kp kk)
  have HT10 := Lib.hid (HT9.out.kp kk)
  have HS10 := Lib.hid (HS9.out.kp kk)
  have HSC10 := Lib.hid (HSC9.out.kp kk)
  have K10 := Lib.hid (K9.out.trans (kk.mono K9.out.size))
  have HN10 := Lib.hid (And.intro (HN9.out.1.kp kk) (And.intro (HN9.out.2.1.kp kk) (And.intro (HN9.out.2.2.1.kp kk) HN9.out.2.2.2)))
  clear kk HC9 HCF9 HM9 HT9 HS9 HSC9 K9 HN9
  generalize w9.drewN nq = w10 at *
  have HDO := Lib.hid (do_any w10 (k := id) (x := (q : Int)) (y := (p : Int)) HN10.out.1 HN10.out.2.1.nil HN10.out.2.2.1.nil)
  rw [HGOOD.out.2.2] at HDO
  obtain ⟨y0, y1, y2, y3, y4, y5, y6, y7, yl⟩ := HT10.out
  simp only [Nat.zero_add] at y0 y1 y2 y3 y4 y5 y6 y7
  obtain ⟨m0', m1', m2', ml'⟩ := HM10.out
  obtain ⟨z0, z1, z2, zl⟩ := HC10.out
  go_wp2_with fail
  (with_reducible refine HDO.out.mono ?_)
  clear y0 y1 y2 y3 y4 y5 y6 y7 yl m0' m1' m2' ml' z0 z1 z2 zl HDO
  rintro e w11 ⟨v11, rfl, hsc11, hk⟩
  obtain ⟨A11, ca11, B11, cb11, rfl, hs11, -, -, -⟩ := hsc11.ex
  dsimp only at hs11
  have hla11 : ts.length = L7 := HSC10.out.hla
  have hlb11 : cur.length = M7 := HSC10.out.hlb
  rw [hla11, hlb11] at hs11
  dsimp only
  rw [hla11, hlb11]
  have HB11 := Lib.hid hs11
  have HC11 := Lib.hid (HC10.out.kp hk)
  have HM11 := Lib.hid (HM10.out.kp hk)
  have HT11 := Lib.hid (HT10.out.kp hk)
  have HS11 := Lib.hid (HS10.out.kp hk)
  have HSC11 := Lib.hid (HSC10.out.kp hk)
  have K11 := Lib.hid (K10.out.trans (hk.mono K10.out.size))
  have HN11 := Lib.hid (And.intro (HN10.out.1.kp hk) (HN10.out.2.1.kp hk))
  clear hk hsc11 hs11 hla11 hlb11 HC10 HCF10 HM10 HT10 HS10 HSC10 K10 HN10 HGOOD
  go_upto_region 15 with fail
  have kk : Kp w11.heap.size w11 (w11.alloc (.cells #[.int .i64 (M7 : Int), .slice A11 L7 ca11, .slice B11 M7 cb11] 30)) := (Kp.refl _ _).alloc (Nat.le_refl _) _
  have HD := Lib.hid (C3.new w11 (.int .i64 (M7 : Int)) (.slice A11 L7 ca11) (.slice B11 M7 cb11) 30)
  have HB12 := Lib.hid (HB11.out.kp kk)
  have HC12 := Lib.hid (HC11.out.kp kk)
  have HM12 := Lib.hid (HM11.out.kp kk)
  have HT12 := Lib.hid (HT11.out.kp kk)
  have HS12 := Lib.hid (HS11.out.kp kk)
  have HSC12 := Lib.hid (HSC11.out.kp kk)
  have K12 := Lib.hid (K11.out.trans (kk.mono K11.out.size))
  have HN12 := Lib.hid (And.intro (HN11.out.1.kp kk) (HN11.out.2.kp kk))
  obtain ⟨bD, hbD⟩ : ∃ b, b = w11.heap.size := ⟨_, rfl⟩
  rw [← hbD] at HD
  rw [← hbD]
  clear kk HB11 HC11 HM11 HT11 HS11 HSC11 K11 HN11 hbD
  generalize w11.alloc _ = w12 at *
  have HEQ0 := equalT_any w12 (A := A11) (B := some ⟨b, off, none⟩) (c := ca11) (d := ca') HB12.out.hla HSC12.out.hla (by omega) (by omega) HB12.out.ts HSC12.out.ts
  dsimp only at HEQ0
  rw [decide_eq_true (rfl : ts = ts)] at HEQ0
  have HEQ := Lib.hid HEQ0
  clear HEQ0
  obtain ⟨d0', d1', d2', dl'⟩ := HD.out
  obtain ⟨x0, x1, x2, xl⟩ := HS12.out
  go_wp2_with fail
  (with_reducible refine HEQ.out.mono ?_)
  clear x0 x1 x2 xl d0' d1' d2' dl' HEQ
  rintro e w13 ⟨rfl, mm, rfl⟩
  have kk : Kp w12.heap.size w12 (w12.drewN mm) := (Kp.refl _ _).drewN mm
  have HC13 := Lib.hid (HC12.out.kp kk)
  have HT13 := Lib.hid (HT12.out.kp kk)
  have HS13 := Lib.hid (HS12.out.kp kk)
  have HSC13 := Lib.hid (HSC12.out.kp kk)
  have K13 := Lib.hid (K12.out.trans (kk.mono K12.out.size))
  have HN13 := Lib.hid (And.intro (HN12.out.1.kp kk) (HN12.out.2.kp kk))
  clear kk HB12 HC12 HM12 HT12 HS12 HSC12 K12 HN12 HD
  generalize w12.drewN mm = w13 at *
  obtain ⟨gA, e, hgb, hgl, hgf, -⟩ := HN13.out.2.at0 _ rfl
  cases e
  have hset := set_cpu2 HN13.out.1.hla hil HN13.out.1.ts (p : Int)
  dsimp only at hset
  rw [HU.out] at hset
  obtain ⟨y0, y1, y2, y3, y4, y5, y6, y7, yl⟩ := HT13.out
  simp only [Nat.zero_add] at y0 y1 y2 y3 y4 y5 y6 y7
  obtain ⟨x0, x1, x2, xl⟩ := HS13.out
  obtain ⟨z0, z1, z2, zl⟩ := HC13.out
  obtain ⟨b7, o7, e, T7⟩ := HN13.out.1.ts i hil
  cases e
  have u3 := T7.c3
  have uf := hgf (i * 8 + 3)
  simp only [Nat.zero_add] at u3
  have hdC : b7 ≠ bC := by have := HA7.out _ rfl; dsimp only at this; omega
  have hdS : b7 ≠ bS := by omega
  have hdb : b ≠ b7 := by omega
  have hts : us.set i (Tk.to (Tk.to ⟨id, grp, wt, (p : Int), mask, true, v, r⟩ (q : Int)) (p : Int)) = ts := by
    rw [← HUS.out, List.set_set]
    refine List.ext_getElem (by rw [List.length_set]) (fun k k1 k2 => ?_)
    by_cases hk : k = i
    · subst hk
      rw [List.getElem_set_self]
      have h := HT.out
      rw [List.getD_eq_getElem?_getD, List.getElem?_eq_getElem hits] at h
      exact h.symm
    · rw [List.getElem_set_ne (Ne.symm hk)]
  rw [hts] at hset
  have PP := Lib.hid (And.intro hset (And.intro ((HSC13.out.ts).far (a := ⟨b7, i * 8 + 3, none⟩) (fun p' hp => by cases hp; exact hdb) (.int .i64 (p : Int))) (And.intro (HC13.out.far (p := ⟨b7, i * 8 + 3, none⟩) hdC (.int .i64 (p : Int))) (And.intro (HS13.out.far (p := ⟨b7, i * 8 + 3, none⟩) hdS (.int .i64 (p : Int))) (K13.out.setCell (p := ⟨b7, i * 8 + 3, none⟩) (by dsimp only; omega) (.int .i64 (p : Int)))))))
  clear hset hts T7
  go_upto_region 18 with fail
  clear y0 y1 y2 y3 y4 y5 y6 y7 yl x0 x1 x2 xl z0 z1 z2 zl u3 uf
  have hla13 : ts.length = L7 := HSC13.out.hla
  have HLA := Lib.hid hla13
  clear HSC13 HC13 HS13 K13 HT13 HN13 hgf hgl hla13
  generalize World.setCell _ _ _ = w14 at *
  obtain ⟨P1, P2, P3, P4, P5⟩ := PP.out
  have HEQ0 := equalT_any w14 (A := some ⟨b7, 0, none⟩) (B := some ⟨b, off, none⟩) (c := ca7) (d := ca') HLA.out HLA.out (by omega) (by omega) P1 P2
  rw [decide_eq_true (rfl : ts = ts)] at HEQ0
  have HEQ := Lib.hid HEQ0
  have K14 := Lib.hid P5
  obtain ⟨z0, z1, z2, zl⟩ := P3
  obtain ⟨x0, x1, x2, xl⟩ := P4
  clear HEQ0 P1 P2 P5 PP
  go_wp2_with fail
  (with_reducible refine HEQ.out.mono ?_)
  rintro e w15 ⟨rfl, mm', rfl⟩
  go_wp2_with fail
  go_ret
  exact ⟨rfl, K14.out.drewN _⟩
end Go.Proofs.Yticgdfbknaholaa
