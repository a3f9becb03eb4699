/-
  The law ShareScales, walked.
-/
import Derived.Test.YtjffikiebeneaaaSums17
import Derived.Test.YtjffikiebeneaaaCut4
import Derived.Test.YtjffikiebeneaaaRefPa17
import Derived.Deep.CutRange
import Derived.Deep.RegionHeld3
namespace Go.Proofs.Ytjffikiebeneaaa
open Go.RowKit

/-- One part, scaled. -/
structure Scd (m w T xn xd k ln ld : Int) : Prop where
  x : xn = ofN w T ∧ xd = ofD w T
  sc : scK xn xd m = k ∧ scN xn xd m = ln ∧ scD xn xd m = ld ∧ scE xn xd m = 0
  cm : cmN ln ld 1 1 = -1 ∧ cmE ln ld 1 1 = 0
  k0 : 0 ≤ k
  km : k ≤ m
  ld1 : 1 ≤ ld
  e1 : m * xn % xd * ld = ln * xd
  e2 : m * xn / xd = k
  mx0 : 0 ≤ m * xn
  mx1 : m * xn ≤ 4611686018427387904
  xd0 : 0 < xd
  p0 : 0 ≤ ln * xd
  p1 : ln * xd ≤ 4611686018427387904
  rest : ln = ofN (m * w % T) T ∧ ld = ofD (m * w % T) T
  kk : k = m * w / T
theorem scd_any {m w T : Int} (m0 : 0 ≤ m) (m1 : m ≤ 2147483648) (w0 : 1 ≤ w) (hT : 0 < T) (wT : w ≤ T) (T1 : T ≤ 2400) : ∃ xn xd k ln ld, Scd m w T xn xd k ln ld := by
  obtain ⟨eo, sx, _⟩ := of_small (n := w) (T := T) (m := 2400) (by omega) hT (by omega) T1 (by decide)
  obtain ⟨v1, v2⟩ := of_val eo
  obtain ⟨g1, g2, g3, g4, g5, g6, g7, g8, g9, _⟩ := sc_good sx.r m0 m1
  obtain ⟨q1, q2, q3, q4⟩ := parts_scale (w := w) (T := T) (q := m) (by omega) hT
  rw [← v1, ← v2] at q1 q2 q3 q4
  have r0 := Int.emod_nonneg (m * ofN w T) (b := ofD w T) (by omega)
  have r1 := Int.emod_lt_of_pos (m * ofN w T) (b := ofD w T) (by omega)
  have f := of_fits (n := m * ofN w T % ofD w T) (d := ofD w T) r0 (by omega) (by omega) (by omega)
  obtain ⟨rr, re⟩ := of_right f.1
  obtain ⟨h1, h2, h3, h4, _⟩ := rightS_of rr
  have hlt : ofN (m * ofN w T % ofD w T) (ofD w T) < ofD (m * ofN w T % ofD w T) (ofD w T) := by
    rcases Int.lt_or_le (ofN (m * ofN w T % ofD w T) (ofD w T)) (ofD (m * ofN w T % ofD w T) (ofD w T)) with h | h
    · exact h
    · have a1 : ofD (m * ofN w T % ofD w T) (ofD w T) * ofD w T ≤ ofN (m * ofN w T % ofD w T) (ofD w T) * ofD w T := Int.mul_le_mul_of_nonneg_right h (by omega)
      have a2 : m * ofN w T % ofD w T * ofD (m * ofN w T % ofD w T) (ofD w T) < ofD w T * ofD (m * ofN w T % ofD w T) (ofD w T) := Int.mul_lt_mul_of_pos_right r1 (by omega)
      rw [Int.mul_comm (ofD w T)] at a2
      omega
  have gc := cm_good rr (show rightS 1 1 = true by kernel_rfl)
  have z0 : 0 ≤ ofN (m * ofN w T % ofD w T) (ofD w T) * ofD w T := Int.mul_nonneg h1 (by omega)
  have z1 : ofN (m * ofN w T % ofD w T) (ofD w T) * ofD w T ≤ 2147483648 * 2147483648 := Int.mul_le_mul h2 (by omega) (by omega) (by decide)
  refine ⟨ofN w T, ofD w T, m * ofN w T / ofD w T, ofN (m * ofN w T % ofD w T) (ofD w T), ofD (m * ofN w T % ofD w T) (ofD w T), ⟨⟨rfl, rfl⟩, ⟨g2, g3, g4, g1⟩, ⟨gc.2.trans (sgV_neg (by omega)), gc.1⟩, ?_, ?_, h3, re.symm, rfl, g6, g7, g8, z0, by omega, ⟨q3, q4⟩, q1⟩⟩
  · exact Int.ediv_nonneg g6 (by omega)
  · rw [q1]
    have h5 : m * w ≤ m * T := Int.mul_le_mul_of_nonneg_left wT m0
    exact (Int.ediv_le_iff_le_mul hT).2 (by
      have := Int.mul_comm m T
      omega)
/-- Whole parts and rests, over a list. -/
def whS (m T : Int) (l : List Int) : Int := sumI (l.map fun w => m * w / T)
def rsS (m T : Int) (l : List Int) : Int := sumI (l.map fun w => m * w % T)
theorem wh_rs (m T : Int) : ∀ l : List Int, T * whS m T l + rsS m T l = m * sumI l
  | [] => by simp [whS, rsS, sumI]
  | w :: l => by
    have ih := wh_rs m T l
    have h := Int.mul_ediv_add_emod (m * w) T
    unfold whS rsS at *
    simp only [List.map_cons, sumI]
    rw [Int.mul_add, Int.mul_add]
    omega
theorem rs_bd {m T : Int} (hT : 0 < T) : ∀ l : List Int, 0 ≤ rsS m T l ∧ rsS m T l ≤ T * l.length
  | [] => by simp [rsS, sumI]
  | w :: l => by
    have ih := rs_bd (m := m) hT l
    have h1 := Int.emod_nonneg (m * w) (b := T) (by omega)
    have h2 := Int.emod_lt_of_pos (m * w) hT
    unfold rsS at *
    simp only [List.map_cons, sumI, List.length_cons]
    rw [Int.natCast_add, Int.mul_add]
    omega
theorem wh_bd {m T : Int} (hT : 0 < T) (m0 : 0 ≤ m) : ∀ l : List Int, (∀ w ∈ l, 0 ≤ w ∧ w ≤ T) → 0 ≤ whS m T l ∧ whS m T l ≤ m * l.length
  | [], _ => by simp [whS, sumI]
  | w :: l, h => by
    have ih := wh_bd hT m0 l (fun x hx => h x (List.mem_cons_of_mem _ hx))
    have hw := h w (List.mem_cons_self ..)
    have h1 : 0 ≤ m * w / T := Int.ediv_nonneg (Int.mul_nonneg m0 hw.1) (by omega)
    have h2 : m * w / T ≤ m := (Int.ediv_le_iff_le_mul hT).2 (by
      have := Int.mul_le_mul_of_nonneg_left hw.2 m0
      have := Int.mul_comm m T
      omega)
    unfold whS at *
    simp only [List.map_cons, sumI, List.length_cons]
    rw [Int.natCast_add, Int.mul_add]
    omega
/-- The rests' sum is what the whole parts leave. -/
theorem rests_sum {m T : Int} (hT : 0 < T) (T1 : T ≤ 2400) (m0 : 0 ≤ m) (m1 : m ≤ 2147483648) (l : List Int) (hl : l.length ≤ 12) (hs : sumI l = T) (h : ∀ w ∈ l, 0 ≤ w ∧ w ≤ T) :
    sum3 (l.map fun w => of2 (m * w % T, T)) = (m - whS m T l, 1, 0) := by
  have h1 := wh_rs m T l
  have h2 := rs_bd (m := m) hT l
  have h3 := wh_bd hT m0 l h
  rw [hs] at h1
  have e : rsS m T l = (m - whS m T l) * T := by
    rw [Int.sub_mul, Int.mul_comm (whS m T l) T]
    omega
  have hle : T * (l.length : Int) ≤ 2400 * 12 := Int.mul_le_mul T1 (by omega) (by omega) (by decide)
  have hq0 : 0 ≤ m - whS m T l := by
    rcases Int.lt_or_le (m - whS m T l) 0 with h5 | h5
    · have := Int.mul_neg_of_neg_of_pos h5 hT
      omega
    · exact h5
  have hm : l.map (fun w => of2 (m * w % T, T)) = (l.map fun w => m * w % T).map fun u => of2 (u, T) := by rw [List.map_map]; rfl
  have hp := sum_parts (m := 28800) hT (by omega) (by decide) (l.map fun w => m * w % T) (fun u hu => by
    obtain ⟨w, _, rfl⟩ := List.mem_map.1 hu
    have h1 := Int.emod_nonneg (m * w) (b := T) (by omega)
    have h2 := Int.emod_lt_of_pos (m * w) hT
    omega) (by show rsS m T l ≤ 28800; omega)
  rw [hm, hp]
  show (ofN (rsS m T l) T, ofD (rsS m T l) T, 0) = _
  have ow := of_whole (q := m - whS m T l) (T := T) hq0 (by omega) hT
  rw [e, ow.2.1, ow.2.2]

/-- The region n of a code. -/
def findR (n : Nat) : Code → Option Code
  | .region i ops d => if i = n then some (.region i ops d) else none
  | .seq a b => match findR n a with
    | some c => some c
    | none => findR n b
  | .cond _ a b => match findR n a with
    | some c => some c
    | none => findR n b
  | .block _ c => findR n c
  | .loop c => findR n c
  | .scope c => findR n c
  | _ => none
noncomputable def code8_14 : Code := (Try.f8.body.bind (findR 14)).getD .skip
set_option maxRecDepth 100000 in
set_option maxHeartbeats 4000000 in
theorem scales_r14 {v0 v1 v2 v3 v4 v5 v6 v7 v9 v10 v11 v18 v19 v20 v21 v22 v23 v24 v25 v26 v27 v28 v29 v30 v31 v32 v33 v34 v35 v36 v37 v38 v39 v40 v41 v42 v43 v44 v45 v46 v47 v48 v49 v50 v51 v52 v53 v54 v55 v56 v57 v58 v59 v60 v61 v62 v63 v64 v65 v66 v67 v68 v69 v70 v71 v72 v73 v74 v75 v76 v77 v78 v79 v80 v81 v82 v83 v84 v85 v86 v87 v88 v89 v90 v91 v92 v93 v94 v95 v96 v97 v98 v99 v100 v101 v102 v103 v104 v105 v106 v107 v108 v109 v110 v111 v112 v113 v114 v115 v116 v117 v118 v119 v120 v121 v122 v123 v124 v125 v126 v127 v128 v129 v130 v131 v132 v133 v134 v135 v136 v137 v138 v139 v140 v141 v142 v143 : Value} {m k xn xd ln ld : Int} {bX bL : Nat} {W w0 : World} (hg0 : GrewS W w0) (m1 : m ≤ 2147483648) (k0 : 0 ≤ k) (km : k ≤ m) (ld1 : 1 ≤ ld) (e1 : m * xn % xd * ld = ln * xd) (e2 : m * xn / xd = k) (mx0 : 0 ≤ m * xn) (mx1 : m * xn ≤ 4611686018427387904) (xd0 : 0 < xd) (p0 : 0 ≤ ln * xd) (p1 : ln * xd ≤ 4611686018427387904) (X : C2 w0 bX (.int .i64 xn) (.int .i64 xd)) (L : C2 w0 bL (.int .i64 ln) (.int .i64 ld)) {Q : Exit → Act → World → Prop}
    (hexit : ∀ (u60 u61 u62 u63 u64 u65 u66 u67 u68 u69 u70 u71 u72 u73 u74 u75 u76 u77 u78 u79 u80 u81 u82 u83 u84 u85 u86 u87 u88 u89 u90 u91 u92 u93 u94 u95 u96 u97 u98 u99 u100 u101 u102 u103 u104 u105 u106 u107 u108 u109 : Value) (w' : World), GrewS W w' → Q .normal ⟨#[v0, v1, v2, v3, v4, v5, v6, v7, .int .i64 m, v9, v10, v11, .pointer (some ⟨bX, 0, none⟩), .int .i64 k, .pointer (some ⟨bL, 0, none⟩), .int .i64 0, .int .i64 (-1), .int .i64 0, v18, v19, v20, v21, v22, v23, v24, v25, v26, v27, v28, v29, v30, v31, v32, v33, v34, v35, v36, v37, v38, v39, v40, v41, v42, v43, v44, v45, v46, v47, v48, v49, v50, v51, v52, v53, v54, v55, v56, v57, v58, v59, u60, u61, u62, u63, u64, u65, u66, u67, u68, u69, u70, u71, u72, u73, u74, u75, u76, u77, u78, u79, u80, u81, u82, u83, u84, u85, u86, u87, u88, u89, u90, u91, u92, u93, u94, u95, u96, u97, u98, u99, u100, u101, u102, u103, u104, u105, u106, u107, u108, u109, .bool false, v111, v112, v113, v114, v115, v116, v117, v118, v119, v120, v121, v122, v123, v124, v125, v126, v127, v128, v129, v130, v131, v132, v133, v134, v135, v136, v137, v138, v139, v140, v141, v142, v143], []⟩ w') :
    Code.wp Try.prog code8_14 Q ⟨#[v0, v1, v2, v3, v4, v5, v6, v7, .int .i64 m, v9, v10, v11, .pointer (some ⟨bX, 0, none⟩), .int .i64 k, .pointer (some ⟨bL, 0, none⟩), .int .i64 0, .int .i64 (-1), .int .i64 0, v18, v19, v20, v21, v22, v23, v24, v25, v26, v27, v28, v29, v30, v31, v32, v33, v34, v35, v36, v37, v38, v39, v40, v41, v42, v43, v44, v45, v46, v47, v48, v49, v50, v51, v52, v53, v54, v55, v56, v57, v58, v59, v60, v61, v62, v63, v64, v65, v66, v67, v68, v69, v70, v71, v72, v73, v74, v75, v76, v77, v78, v79, v80, v81, v82, v83, v84, v85, v86, v87, v88, v89, v90, v91, v92, v93, v94, v95, v96, v97, v98, v99, v100, v101, v102, v103, v104, v105, v106, v107, v108, v109, v110, v111, v112, v113, v114, v115, v116, v117, v118, v119, v120, v121, v122, v123, v124, v125, v126, v127, v128, v129, v130, v131, v132, v133, v134, v135, v136, v137, v138, v139, v140, v141, v142, v143], []⟩ w0 := by
  conv => arg 2; whnf
  refine wp_region_noPanic ?_
  obtain ⟨u1, u2, u3, u4, u5, u6, u7, u8, u9, u10⟩ := div_big (p := m * xn) (q := xd) mx0 (by omega) xd0
  have w1 := wrap_in (x := m * xn) (by omega) (by omega)
  have w2 := wrap_in (x := ln * xd) (by omega) (by omega)
  have c0 := X.c0
  have c1 := X.c1
  have c2 := L.c0
  have c3 := L.c1
  have d1 : decide (k < 0) = false := decide_eq_false (by omega)
  have d2 : decide (m < k) = false := decide_eq_false (by omega)
  have d3 : decide (ld < 1) = false := decide_eq_false (by omega)
  rw [e2] at u3 u5 u7 u8
  clear X L
  go_quiet (fail)
  refine NoPanic.normal (hexit _ _ _ _ _ _ _ _ _ _ _ _ _ _ _ _ _ _ _ _ _ _ _ _ _ _ _ _ _ _ _ _ _ _ _ _ _ _ _ _ _ _ _ _ _ _ _ _ _ _ _ ?_)
  exact hg0.drewN _

theorem sumI_map_snoc (f : Int → Int) (ws : List Int) (j : Nat) (h : j < ws.length) : sumI ((ws.take (j + 1)).map f) = sumI ((ws.take j).map f) + f (ws.getD j 0) := by
  rw [take_snocI ws j h, List.map_append, sumI_app]
  simp [sumI]

set_option maxRecDepth 100000 in
set_option maxHeartbeats 4000000 in
theorem law8 {W0 : World} (A : Option Addr) (len cap : Nat) (l : List Int) (hl : l.length = len) (hc : len ≤ cap) (hm : (cap : Int) ≤ 9223372036854775807) (_ : A = none → cap = 0) (hi : IsInts W0 .u8 A len l) (hw : ∀ n ∈ l, (Lit.int .u8 n).wf = true) (n : Int) (hn : (Lit.int .u32 n).wf = true) :
    Calls Try.prog 8 #[.slice A len cap, .int .u32 n] W0 fun e w' => e = .returned (.bool true) ∧ Kp W0.heap.size W0 w' := by
  obtain ⟨n0, n1⟩ := bounds_u32 hn
  have HAw := fun w => Lib.hid (awake_any w)
  have HW := fun w (k : Kp W0.heap.size W0 w) => Lib.hid (weights_any w A len cap l hl hc hm (hi.below k) hw)
  have hbd : ∀ w ∈ wgt l, 1 ≤ w ∧ w ≤ 200 := fun w h => wgt_bd h
  obtain ⟨M, hM⟩ : ∃ M, M = (wgt l).length := ⟨_, rfl⟩
  have hM1 : M ≤ 12 := by rw [hM, wgt_len]; omega
  rw [← hM] at HW
  generalize wgt l = ws at *
  obtain ⟨T, hT⟩ : ∃ T, T = sumI ws := ⟨_, rfl⟩
  have hsum := sum_le ws hbd
  rw [← hM, ← hT] at hsum
  have hok := parts_ok hbd (by omega)
  have hpl : (parts ws).length = M := by unfold parts; rw [List.length_map]; exact hM.symm
  have HP := fun w A c (h : IsInts w .i64 A M ws) => Lib.hid (parts_good w A c M ws (parts ws) hM.symm hok.2 hok.1 hpl (by omega) h)
  obtain ⟨mm, hmm⟩ : ∃ mm, mm = n % 2147483649 := ⟨_, rfl⟩
  have m0 : 0 ≤ mm := by rw [hmm]; exact Int.emod_nonneg n (by decide)
  have m1 : mm ≤ 2147483648 := by
    have := Int.emod_lt_of_pos n (b := 2147483649) (by decide)
    omega
  have r1 : Int.tmod n 2147483649 = mm := by rw [Int.tmod_eq_emod_of_nonneg n0, hmm]
  have r2 : n % 2147483649 = mm := hmm.symm
  have hle : ∀ i, i < M → 1 ≤ ws.getD i 0 ∧ ws.getD i 0 ≤ 200 ∧ ws.getD i 0 ≤ T ∧ 0 < T := fun i h => by
    have h1 := hbd _ (mem_getD (l := ws) (i := i) (by omega))
    have h2 := sumI_le ws (wOk_all hbd) i (by omega)
    omega
  have HSc := Lib.hid (show ∀ i, i < M → ∃ xn xd k ln ld, Scd mm (ws.getD i 0) T xn xd k ln ld from fun i h => by
    have h1 := hle i h
    exact scd_any m0 m1 h1.1 h1.2.2.2 h1.2.2.1 (by omega))
  have HG := Lib.hid (show ∀ i, i < M → (parts ws).getD i p0 = (ofN (ws.getD i 0) T, ofD (ws.getD i 0) T) from fun i h => by rw [parts_get ws i (by omega), hT])
  have hTl : ∀ w ∈ ws, 0 ≤ w ∧ w ≤ T := fun w hw => by
    obtain ⟨i, hi, rfl⟩ := List.getElem_of_mem hw
    have := hle i (by omega)
    rw [List.getD_eq_getElem?_getD, List.getElem?_eq_getElem hi] at this
    simp only [Option.getD_some] at this
    omega
  have HWh := Lib.hid (show ∀ i, i ≤ M → 0 ≤ whS mm T (ws.take i) ∧ whS mm T (ws.take i) ≤ 2147483648 * 12 from fun i h => by
    rcases Nat.eq_zero_or_pos M with h0 | h0
    · have e : ws.take i = [] := by
        have : i = 0 := by omega
        rw [this]
        rfl
      rw [e]
      simp [whS, sumI]
    · have hb := wh_bd (hle 0 h0).2.2.2 m0 (ws.take i) (fun w hw => hTl w (mem_take hw))
      have hl2 : ((ws.take i).length : Int) ≤ 12 := by rw [List.length_take]; omega
      have h3 : mm * ((ws.take i).length : Int) ≤ 2147483648 * 12 := Int.mul_le_mul m1 hl2 (by omega) (by decide)
      omega)
  have HWs := Lib.hid (show ∀ i, i < M → whS mm T (ws.take (i + 1)) = whS mm T (ws.take i) + mm * ws.getD i 0 / T from fun i h => sumI_map_snoc (fun w => mm * w / T) ws i (by omega))
  have HSum := Lib.hid (show 0 < M → sum3 (ws.map fun w => of2 (mm * w % T, T)) = (mm - whS mm T (ws.take M), 1, 0) from fun h => by
    have := hle 0 h
    have e : ws.take M = ws := by rw [hM, List.take_length]
    rw [e]
    exact rests_sum this.2.2.2 (by omega) m0 m1 ws (by omega) hT.symm hTl)
  have HTk := Lib.hid (show ∀ i, i < M → flat ((ws.take (i + 1)).map fun w => of2 (mm * w % T, T)) = flat ((ws.take i).map fun w => of2 (mm * w % T, T)) ++ flat [(ofN (mm * ws.getD i 0 % T) T, ofD (mm * ws.getD i 0 % T) T)] from fun i h => by
    rw [take_snocI ws i (by omega), List.map_append, flat_app]
    rfl)
  have HMl := Lib.hid hM
  have hMn : M = 0 → ws = [] := fun h => List.eq_nil_of_length_eq_zero (by omega)
  have HMn := Lib.hid hMn
  obtain ⟨i0, hi0, hz0, hz1, hz2⟩ := info_parts shr_info
  have HI := Lib.hid hi0
  have HZ0 := Lib.hid hz0
  have HZ1 := Lib.hid hz1
  have HZ2 := Lib.hid hz2
  generalize hps : parts ws = ps at *
  have hMm : (M : Int) ≤ 12 := by omega
  clear hl hc hm hi hw hn hbd hM hT hsum hok hpl hmm hle hTl hMn hi0 hz0 hz1 hz2 hps
  go_enter Try.func8, Try.ntmps8
  go_wp2_with fail
  (with_reducible refine (HAw _).out.mono ?_)
  rintro e w1 ⟨rfl, hk⟩
  have HK := Lib.hid hk
  clear hk HAw
  go_wp2_with fail
  refine (HW _ HK.out).out.mono ?_
  rintro e w2 ⟨v, rfl, hown, hk1⟩
  obtain ⟨A1, c1, rfl, hc1, hc2, _, hrd, _⟩ := own_form hown
  have HA := Lib.hid (hrd.isInts.2)
  replace HK := Lib.hid (HK.out.trans (hk1.mono HK.out.size))
  clear hown hrd hk1 HW
  go_wp2_with fail
  refine (HP _ _ _ HA.out).out.mono ?_
  rintro e w3 ⟨B1, c2, rfl, hpr, ⟨hd1, hd2⟩, _, hk1⟩
  have HPr := Lib.hid hpr
  replace HK := Lib.hid (HK.out.trans (hk1.mono HK.out.size))
  clear hpr hk1 HP HA
  go_wp2_with fail
  have HR0 := Lib.hid (show (w3.alloc (.cells #[] 25)).ownsRow w3.heap.size 25 2 (.slice (some ⟨w3.heap.size, 0, none⟩) 0 0) 0 (flat ((ws.take 0).map fun w => of2 (mm * w % T, T))) from World.ownsRow_made w3 #[] 0 (Nat.le_refl _) (Nat.zero_le _) rfl)
  have HK0 := Lib.hid (show Kp w3.heap.size w3 (w3.alloc (.cells #[] 25)) from (Kp.refl _ _).alloc (Nat.le_refl _) _)
  have HS0 := Lib.hid (show whS mm T (ws.take 0) = 0 by simp [whS, sumI])
  go_loopw [9, 10, 43] (fun s o i wr => ∃ j : Nat, j ≤ M ∧ i = .int .i64 j ∧ s = .int .i64 (whS mm T (ws.take j)) ∧ wr.ownsRow w3.heap.size 25 2 o j (flat ((ws.take j).map fun w => of2 (mm * w % T, T))) ∧ Kp w3.heap.size w3 wr) (fun _ _ i _ => M - (intOf i).toNat)
  case atStart => exact ⟨0, Nat.zero_le _, rfl, by rw [HS0.out], HR0.out, HK0.out⟩
  case round =>
    clear HR0 HK0 HS0
    obtain ⟨j, hj, rfl, rfl, hown, hkp⟩ := hrel
    by_cases hlt : j < M
    · obtain ⟨b, off, rfl, hb, c0, c1⟩ := (HPr.out.kp hkp) j hlt
      obtain ⟨xn, xd, k, ln, ld, S⟩ := HSc.out j hlt
      rw [HG.out j hlt] at c0 c1
      dsimp only at c0 c1
      rw [← S.x.1] at c0
      rw [← S.x.2] at c1
      have hs0 := HWh.out j (by omega)
      have hs1 := HWs.out j hlt
      have hT1 := HTk.out j hlt
      rw [← S.rest.1, ← S.rest.2] at hT1
      rw [← S.kk] at hs1
      generalize whS mm T (ws.take j) = s at *
      have H' := fun w => scale_any xn xd mm w
      rw [S.sc.1, S.sc.2.1, S.sc.2.2.1, S.sc.2.2.2] at H'
      have C' := fun w => cmp_any ln ld 1 1 w
      rw [S.cm.1, S.cm.2] at C'
      have H := fun w => Lib.hid (H' w)
      have C := fun w => Lib.hid (C' w)
      have HT := Lib.hid hT1
      have HW1 := Lib.hid hs1
      have HKp := Lib.hid hkp
      have HO := Lib.hid hown
      have HS := Lib.hid S
      have k0 := S.k0
      have k1 := S.km
      obtain ⟨s0, s1⟩ := hs0
      have hji : (j : Int) < M := by omega
      clear H' C' hT1 hs1 hkp hown S
      go_wp2_with fail
      (with_reducible refine (H _).out.mono ?_)
      rintro e y1 ⟨rfl, hg1⟩
      have ka : Kp wr.heap.size wr y1 := ((Kp.refl _ _).alloc (Nat.le_refl _) (.cells #[.int .i64 xn, .int .i64 xd] 25)).trans (hg1.kp.mono (by simp))
      have X := (C2.new wr (.int .i64 xn) (.int .i64 xd) 25).kp hg1.kp
      replace HO := Lib.hid (own_kp HO.out ka)
      replace HKp := Lib.hid (HKp.out.trans (ka.mono HKp.out.size))
      generalize wr.heap.size = bX at *
      clear ka hg1 H c0 c1 hb
      go_wp2_with fail
      (with_reducible refine (C _).out.mono ?_)
      rintro e y2 ⟨rfl, hg1⟩
      have ka : Kp y1.heap.size y1 y2 := ((Kp.refl _ _).alloc (Nat.le_refl _) (.cells #[.int .i64 ln, .int .i64 ld] 25)).trans (hg1.kp.mono (by simp))
      have L := (C2.new y1 (.int .i64 ln) (.int .i64 ld) 25).kp hg1.kp
      replace X := (X.alloc _).kp hg1.kp
      replace HO := Lib.hid (own_kp HO.out ka)
      replace HKp := Lib.hid (HKp.out.trans (ka.mono HKp.out.size))
      generalize y1.heap.size = bL at *
      clear ka hg1 C
      go_upto_region 14 with fail
      refine scales_r14 (GrewS.refl _) m1 k0 k1 HS.out.ld1 HS.out.e1 HS.out.e2 HS.out.mx0 HS.out.mx1 HS.out.xd0 HS.out.p0 HS.out.p1 X L ?_
      rintro u60 u61 u62 u63 u64 u65 u66 u67 u68 u69 u70 u71 u72 u73 u74 u75 u76 u77 u78 u79 u80 u81 u82 u83 u84 u85 u86 u87 u88 u89 u90 u91 u92 u93 u94 u95 u96 u97 u98 u99 u100 u101 u102 u103 u104 u105 u106 u107 u108 u109 y3 g1
      replace L := L.kp g1.kp
      replace HO := Lib.hid (own_kp HO.out g1.kp)
      replace HKp := Lib.hid (HKp.out.trans (g1.kp.mono HKp.out.size))
      clear g1 X
      have L0 := L.c0
      have L1 := L.c1
      have hsz := HKp.out.size
      go_wp2_with (at_builtin; refine wpList_append_rd _ rfl _ _ 44 rfl w3.heap.size 25 i0 (.agg #[.int .i64 0, .int .i64 0]) 2 16 Try.underlying44 HI.out HZ0.out HZ1.out HZ2.out rfl (by decide) _ j (flat ((ws.take j).map fun w => of2 (mm * w % T, T))) rfl ?qc1 (some ⟨y3.heap.size, 0, none⟩) 1 1 (flat [(ln, ld)]) rfl ?qc2 (flat_one [(ln, ld)]) ?qc4 ?qc5 ?qc6 ?_)
      case qc1 => exact own_kp HO.out ((Kp.refl _ y3).alloc (Nat.le_refl _) _)
      case qc2 => exact rd_pair y3 ln ld 25
      case qc4 => unfold maxLen; omega
      case qc5 => omega
      case qc6 => simp; omega
      intro v' y4 hown' hgrow
      have HO2 := Lib.hid (show y4.ownsRow w3.heap.size 25 2 v' (j + 1) (flat ((ws.take (j + 1)).map fun w => of2 (mm * w % T, T))) by rw [HT.out]; first | exact hown' | (rw [List.map_take]; exact hown') | (rw [← List.map_take]; exact hown') | (simpa using hown'))
      have HK2 := Lib.hid ((HKp.out.alloc hsz _).grown hgrow (by simp; omega) (fun g hg => (HO.out.lt g hg).1))
      clear hown' hgrow HO HKp hsz L L0 L1
      go_wp2
      go_roundw
      case rel => exact ⟨j + 1, by omega, by go_num, by rw [HW1.out], HO2.out, HK2.out⟩
      case measure => simp [intOf]; omega
    · have hje : j = M := by omega
      subst hje
      have hno : ¬ (j : Int) < j := by omega
      obtain ⟨B2, c4, rfl, _, _, _, hrd, _⟩ := own_form hown
      have hte : ws.take j = ws := by
        have := HMl.out
        rw [List.take_of_length_le (by omega)]
      rw [hte] at hrd
      have hpp := hrd.prs (by rw [List.length_map]; have := HMl.out; omega)
      have hs0 := HWh.out j (by omega)
      have HKF := Lib.hid (HK.out.trans (hkp.mono HK.out.size))
      rcases Nat.eq_zero_or_pos j with h0 | h0
      · have hnil := HMn.out h0
        rw [hnil] at hpp
        clear hnil
        subst h0
        have HS1 := Lib.hid (show Calls Try.prog 24 #[.slice B2 0 c4] wr fun e w' => e = .returned (.tuple #[shr 0 1, .int .i64 0]) ∧ GrewS wr w' from by
          have h := sum_any wr B2 0 c4 [] rfl (by decide) hpp
          rw [show sum3 [] = (0, 1, 0) by kernel_rfl] at h
          exact h)
        generalize whS mm T (ws.take 0) = s at *
        obtain ⟨s0, s1⟩ := hs0
        clear hown hkp hrd hpp hlt hte HSc HG HWh HWs HSum HTk HMl HMn HPr
        go_wp2_with fail
        refine HS1.out.mono ?_
        rintro e y1 ⟨rfl, hg1⟩
        have hsz := HKF.out.size
        have ka : Kp wr.heap.size wr (y1.alloc (.cells #[.int .i64 0, .int .i64 1] 25)) := (hg1.kp).alloc hg1.kp.size _
        replace HKF := Lib.hid (HKF.out.trans (ka.mono hsz))
        clear ka hg1 hsz
        go_wp2_with fail
        go_ret
        exact ⟨rfl, HKF.out⟩
      · have hsum := HSum.out h0
        have HS1 := Lib.hid (show Calls Try.prog 24 #[.slice B2 j c4] wr fun e w' => e = .returned (.tuple #[shr (mm - whS mm T (ws.take j)) 1, .int .i64 0]) ∧ GrewS wr w' from by
          have h := sum_any wr B2 j c4 (ws.map fun w => of2 (mm * w % T, T)) (by rw [List.length_map]; have := HMl.out; omega) (by omega) hpp
          rw [hsum] at h
          exact h)
        generalize whS mm T (ws.take j) = s at *
        obtain ⟨s0, s1⟩ := hs0
        have hss : s + (mm - s) = mm := by omega
        have hMne : ((j : Int) == 0) = false := beq_eq_false_iff_ne.2 (by omega)
        clear hown hkp hrd hpp hlt hte HSc HG HWh HWs HSum HTk HMl HMn HPr hsum
        go_wp2_with fail
        refine HS1.out.mono ?_
        rintro e y1 ⟨rfl, hg1⟩
        have hsz := HKF.out.size
        have ka : Kp wr.heap.size wr (y1.alloc (.cells #[.int .i64 (mm - s), .int .i64 1] 25)) := (hg1.kp).alloc hg1.kp.size _
        replace HKF := Lib.hid (HKF.out.trans (ka.mono hsz))
        clear ka hg1 hsz
        go_wp2_with fail
        go_ret
        exact ⟨by first | rfl | simp [hss], HKF.out⟩
end Go.Proofs.Ytjffikiebeneaaa
