/-
  Several small texts as one.
-/
import Derived.Test.YticgdfbknaholaaMade27

namespace Go.Proofs.Yticgdfbknaholaa
open Go.RowKit

set_option maxRecDepth 100000 in
set_option maxHeartbeats 4000000 in
theorem loads19_any (W : World) {A B : Option Addr} {la ca lb cb : Nat} {s : Sc} (hla : s.ts.length = la) (hlb : s.cur.length = lb)
    (ht : IsTks W A la s.ts) (hf : s.fit) :
    Calls Try.prog 19 #[.agg #[.int .i64 s.n, .slice A la ca, .slice B lb cb]] W fun e w' => ∃ b, e = .returned (.slice (some ⟨b, 0, none⟩) lb lb) ∧ W.heap.size ≤ b ∧ Row w' b lb (fun c => .int .i64 (loadV s.ts c)) ∧ Kp W.heap.size W w' := by
  have hlm := hf.len
  rw [hla] at hlm
  have hn1 := hf.n1
  have hn2 := hf.n64
  have hn3 := hf.cur
  rw [hlb] at hn3
  have HE := Lib.hid hf.each
  clear hf
  obtain ⟨n, ts, cur⟩ := s
  dsimp only at *
  subst hn3
  have hlb64 : lb ≤ 64 := by omega
  have HT := Lib.hid ht
  have HLA := Lib.hid hla
  have hmk := fun w => make_ints w lb (by omega)
  clear ht hla hlb hn1 hn2
  go_enter Try.func19, Try.ntmps19
  go_upto_region 2 with fail
  have X := C3.new W (.int .i64 (lb : Int)) (.slice A la ca) (.slice B lb cb) 30
  have X2 := X.alloc (.cells (madeCells (Value.int .i64 0).cells lb) 3)
  have RW := Row.made (W.alloc (.cells #[.int .i64 (lb : Int), .slice A la ca, .slice B lb cb] 30)) (.int .i64 0) rfl lb 3
  have K := ((Kp.refl W.heap.size W).alloc (Nat.le_refl _) (.cells #[.int .i64 (lb : Int), .slice A la ca, .slice B lb cb] 30)).alloc (by simp) (.cells (madeCells (Value.int .i64 0).cells lb) 3)
  rw [World.size_alloc] at RW
  have hne : W.heap.size ≠ W.heap.size + 1 := by omega
  have hbR : W.heap.size ≤ W.heap.size + 1 := by omega
  have HX := Lib.hid X2
  have HRW := Lib.hid RW
  have HK := Lib.hid K
  clear X X2 RW K hmk
  simp only [Value.cells] at HX HRW HK
  generalize (W.alloc _).alloc _ = w2 at *
  obtain ⟨bS, hbS2⟩ : ∃ bS, bS = W.heap.size := ⟨_, rfl⟩
  obtain ⟨bR, hbR2⟩ : ∃ bR, bR = W.heap.size + 1 := ⟨_, rfl⟩
  rw [← hbR2, ← hbS2] at hne
  rw [← hbR2] at hbR HRW
  rw [← hbS2] at HX
  rw [← hbR2, ← hbS2]
  clear hbS2 hbR2
  have x1 := HX.out.c1
  go_wp2_with fail
  clear x1
  go_loopw [12] (fun i wr => ∃ j : Nat, j ≤ la ∧ i = .int .i64 (j : Int) ∧ Row wr bR lb (fun c => .int .i64 (loadV (ts.take j) c)) ∧ Kp W.heap.size W wr ∧ C3 wr bS (.int .i64 (lb : Int)) (.slice A la ca) (.slice B lb cb)) (fun i _ => la - (intOf i).toNat)
  case atStart => exact ⟨0, Nat.zero_le _, rfl, HRW.out, HK.out, HX.out⟩
  case round =>
    clear HX HRW HK
    obtain ⟨j, hj, rfl, hrw, hk, hx⟩ := hrel
    have HX := Lib.hid hx
    clear hx
    by_cases hlt : j < la
    · have hji : (j : Int) < la := by omega
      have htk := take_snoc' (ts := ts) (i := j) (by rw [HLA.out]; exact hlt)
      obtain ⟨b, off, rfl, T⟩ := HT.out j hlt
      have hfit := HE.out (ts.getD j t0) (by rw [List.getD_eq_getElem?_getD, List.getElem?_eq_getElem (by rw [HLA.out]; exact hlt)]; exact List.getElem_mem _)
      have hbd := fun c => loadV_bd (n := lb) (ts := ts.take j) c (fun t ht => HE.out t (take_mem ht))
      have hjl : (ts.take j).length = j := by rw [List.length_take, HLA.out]; omega
      replace T := T.kp hk
      generalize ts.getD j t0 = t at *
      obtain ⟨id, grp, wt, cpu, mask, rdy, v, r⟩ := t
      obtain ⟨p0, p1, _, _, p2, p3, _⟩ := hfit
      dsimp only at *
      obtain ⟨q, rfl⟩ : ∃ q : Nat, cpu = (q : Int) := ⟨cpu.toNat, by omega⟩
      have hqlb : q < lb := by omega
      have HTK := Lib.hid htk
      have HRW := Lib.hid hrw
      have HK := Lib.hid hk
      obtain ⟨hb0, hb1⟩ := hbd q
      rw [hjl] at hb1
      have HU := fun c => Lib.hid (loadV_snoc (ts.take j) ⟨id, grp, wt, (q : Int), mask, rdy, v, r⟩ c)
      dsimp only at HU
      rw [Int.toNat_natCast] at HU
      clear htk hrw hk hbd hjl
      obtain ⟨c0, c1, c2, c3, c4, c5, c6, c7, hbl⟩ := T
      go_upto_region 5 with fail
      have T := TkAt.new wr ⟨id, grp, wt, (q : Int), mask, rdy, v, r⟩ 43
      have HRW2 := Lib.hid (HRW.out.kp ((Kp.refl _ wr).alloc (Nat.le_refl _) (.cells (tkc ⟨id, grp, wt, (q : Int), mask, rdy, v, r⟩) 43)))
      have HK2 := Lib.hid (HK.out.alloc HK.out.size (.cells (tkc ⟨id, grp, wt, (q : Int), mask, rdy, v, r⟩) 43))
      have HX2 := Lib.hid (HX.out.alloc (.cells (tkc ⟨id, grp, wt, (q : Int), mask, rdy, v, r⟩) 43))
      have HT := Lib.hid T
      obtain ⟨bT, hbT⟩ : ∃ bT, bT = wr.heap.size := ⟨_, rfl⟩
      have hTR : bT ≠ bR := by have := HRW.out.lt; omega
      rw [← hbT] at HT
      rw [← hbT]
      clear c0 c1 c2 c3 c4 c5 c6 c7 T HRW HK HX hbT hbl
      dsimp only [tkc] at HRW2 HK2 HX2
      generalize wr.alloc _ = wA at *
      obtain ⟨c0, c1, c2, c3, c4, c5, c6, c7, hbl⟩ := HT.out
      simp only [Nat.zero_add] at c0 c1 c2 c3 c4 c5 c6 c7
      have hrc := HRW2.out.cells q hqlb
      have hrf := HRW2.out.fz q
      have hrl := HRW2.out.lt
      generalize hL : loadV (ts.take j) q = L at *
      have HL := Lib.hid hL
      clear hL
      obtain ⟨x0, x1, x2, xl⟩ := HX2.out
      have hqi : (q : Int) < (lb : Int) := by omega
      cases rdy
      · go_wp2_with fail
        go_roundw
        case rel => exact ⟨j + 1, by omega, by go_num, HRW2.out.congr (g := fun c => .int .i64 (loadV (ts.take (j + 1)) c)) (fun c _ => by rw [HTK.out, (HU c).out]; simp), HK2.out, HX2.out⟩
        case measure => simp [intOf]; omega
      · go_wp2_with fail
        go_region
        all_goals go_wp2_with fail
        all_goals
          go_roundw
          case rel => exact ⟨j + 1, by omega, by go_num, ((HRW2.out.set hqlb (.int .i64 (L + wt))).congr (g := fun c => .int .i64 (loadV (ts.take (j + 1)) c)) (fun c _ => by
            rw [HTK.out, (HU c).out]
            by_cases e : c = q
            · subst e; simp [HL.out]
            · have : (q == c) = false := beq_eq_false_iff_ne.2 (fun h => e h.symm)
              simp [e, this])).kp ((Kp.refl _ _).drewN 1), (HK2.out.setCell (p := ⟨bR, q, none⟩) hbR _).drew, (HX2.out.far (p := ⟨bR, q, none⟩) hne.symm _).drew⟩
          case measure => simp [intOf]; omega
    · have hje : j = la := by omega
      subst hje
      have hjn : ¬ ((j : Int) < (j : Int)) := by omega
      have htk : ts.take j = ts := List.take_of_length_le (by rw [HLA.out]; exact Nat.le_refl _)
      rw [htk] at hrw
      have HRW := Lib.hid hrw
      have HK := Lib.hid hk
      clear hrw hk htk
      go_wp2_with fail
      go_ret
      exact ⟨bR, rfl, hbR, HRW.out, HK.out⟩
end Go.Proofs.Yticgdfbknaholaa

namespace Go.Proofs.Yticgdfbknaholaa
open Go.RowKit

set_option maxRecDepth 100000 in
set_option maxHeartbeats 1000000 in
theorem pick_any (W : World) {x : Int} {m : Nat} (h0 : 0 < m) (h1 : m ≤ 1000) (_x0 : -9223372036854775808 ≤ x) (_x1 : x ≤ 9223372036854775807) :
    Calls Try.prog 22 #[.int .i64 x, .int .i64 (m : Int)] W fun e w' => ∃ k : Nat, e = .returned (.int .i64 (k : Int)) ∧ k < m ∧ W = w' := by
  obtain ⟨r, hr⟩ : ∃ r, Int.tmod x (m : Int) = r := ⟨_, rfl⟩
  have hm1 : (1 : Int) ≤ (m : Int) := by omega
  have hm1' : ¬ ((m : Int) < 1) := by omega
  have hm2 : (m : Int) ≠ 0 := by omega
  have hm3 : ((m : Int) == 0) = false := beq_eq_false_iff_ne.2 hm2
  have hlt := Int.natAbs_tmod x (m : Int)
  rw [hr] at hlt
  have hr1 : r.natAbs < m := by rw [hlt, Int.natAbs_natCast]; exact Nat.mod_lt _ h0
  have hr2 : r < (m : Int) := by omega
  have hr3 : -(m : Int) < r := by omega
  have hw : IntKind.i64.wrap r = r := by
    unfold IntKind.wrap
    simp [IntKind.bits, IntKind.signed]
    omega
  clear hlt hr1
  by_cases hn : r < 0
  · go_enter Try.func22, Try.ntmps22
    go_wp2_with fail
    go_ret
    exact ⟨(r + m).toNat, by rw [Int.toNat_of_nonneg (by omega)]; rfl, by omega, rfl⟩
  · have hn' : 0 ≤ r := by omega
    go_enter Try.func22, Try.ntmps22
    go_wp2_with fail
    go_ret
    exact ⟨r.toNat, by rw [Int.toNat_of_nonneg (by omega)]; rfl, by omega, rfl⟩
end Go.Proofs.Yticgdfbknaholaa

