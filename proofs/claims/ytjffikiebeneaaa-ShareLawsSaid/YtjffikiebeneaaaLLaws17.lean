/-
  The law ShareLaws, walked.
-/
import Derived.Test.YtjffikiebeneaaaDo17
import Derived.Deep.RegionHeld3
import Derived.OpenShut
namespace Go.Proofs.Ytjffikiebeneaaa
open Go.RowKit

theorem laws_all {xn xd yn yd zn zd : Int} (x : Sm 256 xn xd) (y : Sm 256 yn yd) (z : Sm 256 zn zd) :
    ∃ sn sd pn pd un ud tn td qn qd rn rd kn kd ln ld : Int, (plN xn xd yn yd = sn ∧ plD xn xd yn yd = sd ∧ plE xn xd yn yd = 0) ∧ (tmN xn xd yn yd = pn ∧ tmD xn xd yn yd = pd ∧ tmE xn xd yn yd = 0) ∧ (plN yn yd xn xd = sn ∧ plD yn yd xn xd = sd ∧ plE yn yd xn xd = 0) ∧ (tmN yn yd xn xd = pn ∧ tmD yn yd xn xd = pd ∧ tmE yn yd xn xd = 0) ∧ (leN sn sd yn yd = xn ∧ leD sn sd yn yd = xd ∧ leE sn sd yn yd = 0) ∧ (0 < yn → (ovN pn pd yn yd = xn ∧ ovD pn pd yn yd = xd ∧ ovE pn pd yn yd = 0)) ∧ (plN sn sd zn zd = un ∧ plD sn sd zn zd = ud ∧ plE sn sd zn zd = 0) ∧ (plN yn yd zn zd = tn ∧ plD yn yd zn zd = td ∧ plE yn yd zn zd = 0) ∧ (plN xn xd tn td = un ∧ plD xn xd tn td = ud ∧ plE xn xd tn td = 0) ∧ (tmN pn pd zn zd = qn ∧ tmD pn pd zn zd = qd ∧ tmE pn pd zn zd = 0) ∧ (tmN yn yd zn zd = rn ∧ tmD yn yd zn zd = rd ∧ tmE yn yd zn zd = 0) ∧ (tmN xn xd rn rd = qn ∧ tmD xn xd rn rd = qd ∧ tmE xn xd rn rd = 0) ∧ (tmN sn sd zn zd = kn ∧ tmD sn sd zn zd = kd ∧ tmE sn sd zn zd = 0) ∧ (tmN xn xd zn zd = ln ∧ tmD xn xd zn zd = ld ∧ tmE xn xd zn zd = 0) ∧ (plN ln ld rn rd = kn ∧ plD ln ld rn rd = kd ∧ plE ln ld rn rd = 0) := by
  obtain ⟨e1, s1, _⟩ := x.plus y (by decide)
  obtain ⟨e2, s2, _⟩ := x.times y (by decide)
  obtain ⟨e8, s8, _⟩ := y.plus z (by decide)
  obtain ⟨e11, s11, _⟩ := y.times z (by decide)
  obtain ⟨e14, s14, _⟩ := x.times z (by decide)
  have c3 := plus_comm xn xd yn yd x.r y.r
  have c4 := times_comm xn xd yn yd x.r y.r
  have c5 := plus_less x y (by decide)
  have c6 := times_over x y (by decide)
  have c9 := plus_assoc x y z (by decide) (by decide)
  have c12 := times_assoc x y z (by decide) (by decide)
  have c15 := times_plus x y z (by decide) (by decide) (by decide)
  refine ⟨_, _, _, _, _, _, _, _, _, _, _, _, _, _, _, _, ⟨rfl, rfl, e1⟩, ⟨rfl, rfl, e2⟩, ⟨c3.1.symm, c3.2.1.symm, c3.2.2.symm.trans e1⟩, ⟨c4.1.symm, c4.2.1.symm, c4.2.2.symm.trans e2⟩, c5, fun h => c6 h, ⟨rfl, rfl, c9.2.2.1⟩, ⟨rfl, rfl, e8⟩, ⟨c9.1.symm, c9.2.1.symm, c9.2.2.2⟩,
    ⟨rfl, rfl, c12.2.2.1⟩, ⟨rfl, rfl, e11⟩, ⟨c12.1.symm, c12.2.1.symm, c12.2.2.2⟩, ⟨rfl, rfl, c15.2.2.1⟩, ⟨rfl, rfl, e14⟩, ⟨c15.1.symm, c15.2.1.symm, c15.2.2.2⟩⟩
theorem zd_mk {w : World} {b : Nat} (h1 : At w ⟨b, 0, none⟩ (.int .i64 0)) (h2 : Fz w b) : Zd w b := ⟨h1, h2⟩
theorem sm8 {n d : Int} (n0 : 0 ≤ n) (n1 : n ≤ 255) (d0 : 0 ≤ d) (d1 : d ≤ 255) : Sm 256 (ofN n (1 + d)) (ofD n (1 + d)) :=
  (of_small n0 (by omega) (by omega) (by omega) (by decide)).2.1

section
variable {P : Program} {Q : Exit → Act → World → Prop} {md : Region.Mode} {S : World → Prop}
theorem at_drop {l more : List Oper} {i : Nat} {oi : Oper} (hi : l.drop i = oi :: more) : l.toArray[i]? = some oi := by
  have h0 : (l.drop i)[0]? = some oi := by rw [hi]; rfl
  rw [List.getElem?_drop] at h0
  simpa using h0
/-- Take number i first, S being kept all along. -/
theorem heldTake (i : Nat) {l more : List Oper} {oi : Oper} {v : Value} {fuel : Nat} {got : Array Bool} {a : Act} {w : World} (hi : l.drop i = oi :: more)
    (hs : Region.noSelect l.toArray = true) (hf : Region.free md l.toArray got i = true) (hr : (Region.ready md l.toArray got).contains i = true)
    (hQ : ∀ c a w, Q (.panic c) (a.put oi.dst v) w → Q (.panic c) a w) (hy : YieldsIf P l.toArray S oi v a) (hS : S w)
    (h : wpAnyH P md l.toArray Q S fuel (got.setIfInBounds i true) (a.put oi.dst v) w) : wpAnyH P md l.toArray Q S (fuel + 1) got a w :=
  wpAnyH_take (at_drop hi) hs hf hr hQ hy hS h
/-- Number i is the only one that may come up, and it is wanted. -/
theorem heldOne (i : Nat) {l more : List Oper} {oi : Oper} {fuel : Nat} {got : Array Bool} {a : Act} {w : World} (hi : l.drop i = oi :: more)
    (hr : Region.ready md l.toArray got = [i]) (hg : Region.wanted oi (yielded l.toArray a.tmps) = true)
    (h : oi.wp P a w (fun a' w' => S w' ∧ wpAnyH P md l.toArray Q S fuel (got.setIfInBounds i true) a' w') Q) : wpAnyH P md l.toArray Q S (fuel + 1) got a w := by
  refine wpAnyH_all hr (by simp) (fun j hj => ?_)
  have hj : j = i := by simpa using hj
  subst hj
  unfold wpOp
  simp only [at_drop hi]
  rw [if_pos hg]
  exact .inl h
end

/-- The region n of a code. -/
def findR (n : Nat) : Code → Option Code
  | .region i ops d => if i = n then some (.region i ops d) else none
  | .seq a b => match findR n a with
    | some c => some c
    | none => findR n b
  | .cond _ a b => match findR n a with
    | some c => some c
    | none => findR n b
  | .block _ c => findR n c
  | .loop c => findR n c
  | .scope c => findR n c
  | _ => none
noncomputable def code3_8 : Code := (Try.f3.body.bind (findR 8)).getD .skip
noncomputable def code3_9 : Code := (Try.f3.body.bind (findR 9)).getD .skip
noncomputable def code3_11 : Code := (Try.f3.body.bind (findR 11)).getD .skip
noncomputable def code3_13 : Code := (Try.f3.body.bind (findR 13)).getD .skip
set_option maxRecDepth 100000 in
set_option maxHeartbeats 4000000 in
theorem laws_r8 {v0 v1 v2 v3 v4 v5 v6 v8 v10 v11 v12 v13 v15 v16 v17 v18 v19 v20 v21 v22 v23 v24 v25 v26 v27 v28 v29 v30 v31 v32 v33 v34 v35 v36 v37 v38 v39 v40 v41 v42 v43 v44 v45 v46 v47 v48 v49 v50 v51 v52 v53 v54 v55 v56 v57 v58 v59 v60 v61 v62 v63 v64 v65 v66 v67 v68 v69 v70 v71 v72 v73 v74 v75 v76 v77 v78 v79 v80 v81 v82 v83 v84 v85 v86 v87 v88 v89 v90 v91 v92 v93 v94 v95 v96 v97 v98 v99 v100 v101 v102 v103 v104 v105 v106 v107 v108 v109 v110 v111 v112 v113 v114 v115 v116 v117 v118 v119 v120 v121 v122 v123 v124 v125 v126 v127 v128 v129 v130 v131 v132 v133 v134 v135 v136 v137 v138 v139 v140 v141 v142 v143 v144 v145 v146 v147 v148 v149 : Value} {xn xd yn yd zn zd sn sd pn pd : Int} {bXx bXy bXz bb : Nat} {W w0 : World} (d1 : (plN xn xd yn yd = sn ∧ plD xn xd yn yd = sd ∧ plE xn xd yn yd = 0)) (d2 : (tmN xn xd yn yd = pn ∧ tmD xn xd yn yd = pd ∧ tmE xn xd yn yd = 0)) (Xx : C2 w0 bXx (.int .i64 xn) (.int .i64 xd)) (Xy : C2 w0 bXy (.int .i64 yn) (.int .i64 yd)) (Xz : C2 w0 bXz (.int .i64 zn) (.int .i64 zd)) (BD : At w0 ⟨bb, 0, none⟩ (.int .i64 0)) (FBD : Fz w0 bb) (hg0 : GrewS W w0) {Q : Exit → Act → World → Prop}
    (hexit : ∀ (u15 u16 u50 u51 u52 u53 u54 u55 u56 u57 : Value) (w' : World), (∃ B C : Nat, u15 = .pointer (some ⟨B, 0, none⟩) ∧ u16 = .pointer (some ⟨C, 0, none⟩) ∧ C2 w' B (.int .i64 sn) (.int .i64 sd) ∧ C2 w' C (.int .i64 pn) (.int .i64 pd) ∧ C2 w' bXx (.int .i64 xn) (.int .i64 xd) ∧ C2 w' bXy (.int .i64 yn) (.int .i64 yd) ∧ C2 w' bXz (.int .i64 zn) (.int .i64 zd) ∧ Zd w' bb ∧ GrewS W w') → Q .normal ⟨#[v0, v1, v2, v3, v4, v5, v6, .pointer (some ⟨bXx, 0, none⟩), v8, .pointer (some ⟨bXy, 0, none⟩), v10, v11, v12, v13, .func (.func 14) #[] #[.pointer (some ⟨bb, 0, none⟩)], u15, u16, v17, v18, v19, v20, v21, v22, v23, v24, v25, v26, v27, v28, v29, v30, v31, v32, v33, v34, v35, v36, v37, v38, v39, v40, v41, v42, v43, v44, v45, v46, v47, v48, v49, u50, u51, u52, u53, u54, u55, u56, u57, v58, v59, v60, v61, v62, v63, v64, v65, v66, v67, v68, v69, v70, v71, v72, v73, v74, v75, v76, v77, v78, v79, v80, v81, v82, v83, v84, v85, v86, v87, v88, v89, v90, v91, v92, v93, v94, v95, v96, v97, v98, v99, v100, v101, v102, v103, v104, v105, v106, v107, v108, v109, v110, v111, v112, v113, v114, v115, v116, v117, v118, v119, v120, v121, v122, v123, v124, v125, v126, v127, v128, v129, v130, v131, v132, v133, v134, v135, v136, v137, v138, v139, v140, v141, v142, v143, v144, v145, v146, v147, v148, v149], []⟩ w') :
    Code.wp Try.prog code3_8 Q ⟨#[v0, v1, v2, v3, v4, v5, v6, .pointer (some ⟨bXx, 0, none⟩), v8, .pointer (some ⟨bXy, 0, none⟩), v10, v11, v12, v13, .func (.func 14) #[] #[.pointer (some ⟨bb, 0, none⟩)], v15, v16, v17, v18, v19, v20, v21, v22, v23, v24, v25, v26, v27, v28, v29, v30, v31, v32, v33, v34, v35, v36, v37, v38, v39, v40, v41, v42, v43, v44, v45, v46, v47, v48, v49, v50, v51, v52, v53, v54, v55, v56, v57, v58, v59, v60, v61, v62, v63, v64, v65, v66, v67, v68, v69, v70, v71, v72, v73, v74, v75, v76, v77, v78, v79, v80, v81, v82, v83, v84, v85, v86, v87, v88, v89, v90, v91, v92, v93, v94, v95, v96, v97, v98, v99, v100, v101, v102, v103, v104, v105, v106, v107, v108, v109, v110, v111, v112, v113, v114, v115, v116, v117, v118, v119, v120, v121, v122, v123, v124, v125, v126, v127, v128, v129, v130, v131, v132, v133, v134, v135, v136, v137, v138, v139, v140, v141, v142, v143, v144, v145, v146, v147, v148, v149], []⟩ w0 := by
  conv => arg 2; whnf
  refine wp_region_noPanic ?_
  have HD1 := fun W bb hz => Lib.hid (do15 (a := xn) (b := xd) (c := yn) (d := yd) W bb hz d1)
  clear d1
  have HD2 := fun W bb hz => Lib.hid (do16 (a := xn) (b := xd) (c := yn) (d := yd) W bb hz d2)
  clear d2
  have hg := Lib.hid hg0
  clear hg0
  refine wp_region_anyN (fun w' => w'.cell? ⟨bXx, 0, none⟩ = some (.int .i64 xn) ∧ w'.cell? ⟨bXx, 1, none⟩ = some (.int .i64 xd) ∧ w'.cell? ⟨bXy, 0, none⟩ = some (.int .i64 yn) ∧ w'.cell? ⟨bXy, 1, none⟩ = some (.int .i64 yd)) 10 (by kernel_rfl) ?_
  replace Xx := Xx.drew
  replace Xy := Xy.drew
  replace Xz := Xz.drew
  replace BD := BD.drew
  replace FBD := FBD.drew
  replace hg := Lib.hid hg.out.drew
  generalize w0.drew = w0 at *
  have hS : w0.cell? ⟨bXx, 0, none⟩ = some (.int .i64 xn) ∧ w0.cell? ⟨bXx, 1, none⟩ = some (.int .i64 xd) ∧ w0.cell? ⟨bXy, 0, none⟩ = some (.int .i64 yn) ∧ w0.cell? ⟨bXy, 1, none⟩ = some (.int .i64 yd) := ⟨Xx.c0, Xx.c1, Xy.c0, Xy.c1⟩
  refine anyN_take 0 (v := ?_) rfl (by kernel_rfl) (by kernel_rfl) (by kernel_rfl) (by kernel_rfl) (by kernel_rfl) (fun _ _ _ h => h) (Or.inl ⟨by rfl, ?_⟩) (by assumption) ?_
  rotate_left
  · intro w hSw
    obtain ⟨_, _, _, _⟩ := hSw
    go_simp
    try with_reducible rfl
  simp only [Act.put, List.setIfInBounds_toArray, List.set_cons_zero, List.set_cons_succ]
  refine anyN_take 1 (v := ?_) rfl (by kernel_rfl) (by kernel_rfl) (by kernel_rfl) (by kernel_rfl) (by kernel_rfl) (fun _ _ _ h => h) (Or.inl ⟨by rfl, ?_⟩) (by assumption) ?_
  rotate_left
  · intro w hSw
    obtain ⟨_, _, _, _⟩ := hSw
    go_simp
    try with_reducible rfl
  simp only [Act.put, List.setIfInBounds_toArray, List.set_cons_zero, List.set_cons_succ]
  refine anyN_take 2 (v := ?_) rfl (by kernel_rfl) (by kernel_rfl) (by kernel_rfl) (by kernel_rfl) (by kernel_rfl) (fun _ _ _ h => h) (Or.inl ⟨by rfl, ?_⟩) (by assumption) ?_
  rotate_left
  · intro w hSw
    obtain ⟨_, _, _, _⟩ := hSw
    go_simp
    try with_reducible rfl
  simp only [Act.put, List.setIfInBounds_toArray, List.set_cons_zero, List.set_cons_succ]
  refine anyN_take 4 (v := ?_) rfl (by kernel_rfl) (by kernel_rfl) (by kernel_rfl) (by kernel_rfl) (by kernel_rfl) (fun _ _ _ h => h) (Or.inl ⟨by rfl, ?_⟩) (by assumption) ?_
  rotate_left
  · intro w hSw
    obtain ⟨_, _, _, _⟩ := hSw
    go_simp
    try with_reducible rfl
  simp only [Act.put, List.setIfInBounds_toArray, List.set_cons_zero, List.set_cons_succ]
  refine anyN_take 5 (v := ?_) rfl (by kernel_rfl) (by kernel_rfl) (by kernel_rfl) (by kernel_rfl) (by kernel_rfl) (fun _ _ _ h => h) (Or.inl ⟨by rfl, ?_⟩) (by assumption) ?_
  rotate_left
  · intro w hSw
    obtain ⟨_, _, _, _⟩ := hSw
    go_simp
    try with_reducible rfl
  simp only [Act.put, List.setIfInBounds_toArray, List.set_cons_zero, List.set_cons_succ]
  refine anyN_take 6 (v := ?_) rfl (by kernel_rfl) (by kernel_rfl) (by kernel_rfl) (by kernel_rfl) (by kernel_rfl) (fun _ _ _ h => h) (Or.inl ⟨by rfl, ?_⟩) (by assumption) ?_
  rotate_left
  · intro w hSw
    obtain ⟨_, _, _, _⟩ := hSw
    go_simp
    try with_reducible rfl
  simp only [Act.put, List.setIfInBounds_toArray, List.set_cons_zero, List.set_cons_succ]
  refine anyN_three 3 8 9 rfl rfl rfl (by kernel_rfl) rfl rfl rfl ?_ ?_ ?_
  · go_simp
    (with_reducible refine (HD1 _ _ (zd_mk BD FBD)).out.mono ?_)
    rintro e wv1 ⟨rfl, hg1⟩
    have k1 := hg1.kp
    replace Xx := Xx.kp k1
    replace Xy := Xy.kp k1
    replace Xz := Xz.kp k1
    replace BD := BD.kp k1
    replace FBD := FBD.kp k1
    replace hg := Lib.hid (hg.out.trans hg1)
    clear k1 hg1
    dsimp only
    refine and_keep ⟨Xx.c0, Xx.c1, Xy.c0, Xy.c1⟩ (fun hS => ?_)
    refine anyN_three 7 8 9 rfl rfl rfl (by kernel_rfl) rfl rfl rfl ?_ ?_ ?_
    · go_simp
      (with_reducible refine (HD2 _ _ (zd_mk BD FBD)).out.mono ?_)
      rintro e wv2 ⟨rfl, hg1⟩
      have k1 := hg1.kp
      replace Xx := Xx.kp k1
      replace Xy := Xy.kp k1
      replace Xz := Xz.kp k1
      replace BD := BD.kp k1
      replace FBD := FBD.kp k1
      replace hg := Lib.hid (hg.out.trans hg1)
      clear k1 hg1
      dsimp only
      refine and_keep ⟨Xx.c0, Xx.c1, Xy.c0, Xy.c1⟩ (fun hS => ?_)
      refine anyN_two 8 9 rfl rfl (by kernel_rfl) rfl rfl ?_ ?_
      · go_simp
        have ne_SS_Xx : wv2.heap.size ≠ bXx := Nat.ne_of_gt Xx.lt
        have ne_SS_Xy : wv2.heap.size ≠ bXy := Nat.ne_of_gt Xy.lt
        have ne_SS_Xz : wv2.heap.size ≠ bXz := Nat.ne_of_gt Xz.lt
        have ne_SS_BD : wv2.heap.size ≠ bb := Nat.ne_of_gt BD.2
        have le_SS : W.heap.size ≤ wv2.heap.size := hg.out.kp.size
        have SS := C2.new wv2 (.int .i64 0) (.int .i64 0) 25
        have FSS := Fz.new wv2 #[.int .i64 0, .int .i64 0] 25
        replace Xx := Xx.alloc (.cells #[.int .i64 0, .int .i64 0] 25)
        replace Xy := Xy.alloc (.cells #[.int .i64 0, .int .i64 0] 25)
        replace Xz := Xz.alloc (.cells #[.int .i64 0, .int .i64 0] 25)
        replace BD := BD.alloc (.cells #[.int .i64 0, .int .i64 0] 25)
        replace FBD := FBD.alloc (.cells #[.int .i64 0, .int .i64 0] 25)
        replace hg := Lib.hid (hg.out.alloc (.cells #[.int .i64 0, .int .i64 0] 25))
        generalize wv2.alloc (.cells #[.int .i64 0, .int .i64 0] 25) = wa3 at *
        generalize wv2.heap.size = bSS at *
        refine and_keep ⟨Xx.c0, Xx.c1, Xy.c0, Xy.c1⟩ (fun hS => ?_)
        refine anyN_one 9 rfl (by kernel_rfl) rfl ?_
        go_simp
        have ne_PP_Xx : wa3.heap.size ≠ bXx := Nat.ne_of_gt Xx.lt
        have ne_PP_Xy : wa3.heap.size ≠ bXy := Nat.ne_of_gt Xy.lt
        have ne_PP_Xz : wa3.heap.size ≠ bXz := Nat.ne_of_gt Xz.lt
        have ne_PP_BD : wa3.heap.size ≠ bb := Nat.ne_of_gt BD.2
        have ne_PP_SS : wa3.heap.size ≠ bSS := Nat.ne_of_gt SS.lt
        have le_PP : W.heap.size ≤ wa3.heap.size := hg.out.kp.size
        have PP := C2.new wa3 (.int .i64 0) (.int .i64 0) 25
        have FPP := Fz.new wa3 #[.int .i64 0, .int .i64 0] 25
        replace Xx := Xx.alloc (.cells #[.int .i64 0, .int .i64 0] 25)
        replace Xy := Xy.alloc (.cells #[.int .i64 0, .int .i64 0] 25)
        replace Xz := Xz.alloc (.cells #[.int .i64 0, .int .i64 0] 25)
        replace BD := BD.alloc (.cells #[.int .i64 0, .int .i64 0] 25)
        replace FBD := FBD.alloc (.cells #[.int .i64 0, .int .i64 0] 25)
        replace SS := SS.alloc (.cells #[.int .i64 0, .int .i64 0] 25)
        replace FSS := FSS.alloc (.cells #[.int .i64 0, .int .i64 0] 25)
        replace hg := Lib.hid (hg.out.alloc (.cells #[.int .i64 0, .int .i64 0] 25))
        generalize wa3.alloc (.cells #[.int .i64 0, .int .i64 0] 25) = wa4 at *
        generalize wa3.heap.size = bPP at *
        refine and_keep ⟨Xx.c0, Xx.c1, Xy.c0, Xy.c1⟩ (fun hS => ?_)
        have SS_0 := SS.c0
        have SS_1 := SS.c1
        have FSS_2 := FSS.2
        refine anyN_one 10 rfl (by kernel_rfl) rfl ?_
        go_simp
        clear SS_0 SS_1 FSS_2
        replace Xx := Xx.far2 ne_SS_Xx (.int .i64 sn) (.int .i64 sd)
        replace Xy := Xy.far2 ne_SS_Xy (.int .i64 sn) (.int .i64 sd)
        replace Xz := Xz.far2 ne_SS_Xz (.int .i64 sn) (.int .i64 sd)
        replace BD := BD.far2 (B := bSS) ne_SS_BD (.int .i64 sn) (.int .i64 sd)
        replace FBD := (FBD.set ⟨bSS, 0, none⟩ (.int .i64 sn)).set ⟨bSS, 1, none⟩ (.int .i64 sd)
        replace SS := SS.set (.int .i64 sn) (.int .i64 sd)
        replace FSS := (FSS.set ⟨bSS, 0, none⟩ (.int .i64 sn)).set ⟨bSS, 1, none⟩ (.int .i64 sd)
        replace PP := PP.far2 ne_PP_SS.symm (.int .i64 sn) (.int .i64 sd)
        replace FPP := (FPP.set ⟨bSS, 0, none⟩ (.int .i64 sn)).set ⟨bSS, 1, none⟩ (.int .i64 sd)
        replace hg := Lib.hid (hg.out.set2 (B := bSS) le_SS (.int .i64 sn) (.int .i64 sd))
        generalize World.setCell _ _ _ = ws5 at *
        have PP_0 := PP.c0
        have PP_1 := PP.c1
        have FPP_2 := FPP.2
        refine anyN_one 11 rfl (by kernel_rfl) rfl ?_
        go_simp
        clear PP_0 PP_1 FPP_2
        replace Xx := Xx.far2 ne_PP_Xx (.int .i64 pn) (.int .i64 pd)
        replace Xy := Xy.far2 ne_PP_Xy (.int .i64 pn) (.int .i64 pd)
        replace Xz := Xz.far2 ne_PP_Xz (.int .i64 pn) (.int .i64 pd)
        replace BD := BD.far2 (B := bPP) ne_PP_BD (.int .i64 pn) (.int .i64 pd)
        replace FBD := (FBD.set ⟨bPP, 0, none⟩ (.int .i64 pn)).set ⟨bPP, 1, none⟩ (.int .i64 pd)
        replace SS := SS.far2 ne_PP_SS (.int .i64 pn) (.int .i64 pd)
        replace FSS := (FSS.set ⟨bPP, 0, none⟩ (.int .i64 pn)).set ⟨bPP, 1, none⟩ (.int .i64 pd)
        replace PP := PP.set (.int .i64 pn) (.int .i64 pd)
        replace FPP := (FPP.set ⟨bPP, 0, none⟩ (.int .i64 pn)).set ⟨bPP, 1, none⟩ (.int .i64 pd)
        replace hg := Lib.hid (hg.out.set2 (B := bPP) le_PP (.int .i64 pn) (.int .i64 pd))
        generalize World.setCell _ _ _ = ws6 at *
        refine anyN_done (by kernel_rfl) ?_
        clear hS
        refine NoPanic.normal (hexit _ _ _ _ _ _ _ _ _ _ _ ?_)
        exact ⟨_, _, rfl, rfl, SS, PP, Xx, Xy, Xz, zd_mk BD FBD, hg.out⟩
      · go_simp
        have ne_PP_Xx : wv2.heap.size ≠ bXx := Nat.ne_of_gt Xx.lt
        have ne_PP_Xy : wv2.heap.size ≠ bXy := Nat.ne_of_gt Xy.lt
        have ne_PP_Xz : wv2.heap.size ≠ bXz := Nat.ne_of_gt Xz.lt
        have ne_PP_BD : wv2.heap.size ≠ bb := Nat.ne_of_gt BD.2
        have le_PP : W.heap.size ≤ wv2.heap.size := hg.out.kp.size
        have PP := C2.new wv2 (.int .i64 0) (.int .i64 0) 25
        have FPP := Fz.new wv2 #[.int .i64 0, .int .i64 0] 25
        replace Xx := Xx.alloc (.cells #[.int .i64 0, .int .i64 0] 25)
        replace Xy := Xy.alloc (.cells #[.int .i64 0, .int .i64 0] 25)
        replace Xz := Xz.alloc (.cells #[.int .i64 0, .int .i64 0] 25)
        replace BD := BD.alloc (.cells #[.int .i64 0, .int .i64 0] 25)
        replace FBD := FBD.alloc (.cells #[.int .i64 0, .int .i64 0] 25)
        replace hg := Lib.hid (hg.out.alloc (.cells #[.int .i64 0, .int .i64 0] 25))
        generalize wv2.alloc (.cells #[.int .i64 0, .int .i64 0] 25) = wa7 at *
        generalize wv2.heap.size = bPP at *
        refine and_keep ⟨Xx.c0, Xx.c1, Xy.c0, Xy.c1⟩ (fun hS => ?_)
        refine anyN_one 8 rfl (by kernel_rfl) rfl ?_
        go_simp
        have ne_SS_Xx : wa7.heap.size ≠ bXx := Nat.ne_of_gt Xx.lt
        have ne_SS_Xy : wa7.heap.size ≠ bXy := Nat.ne_of_gt Xy.lt
        have ne_SS_Xz : wa7.heap.size ≠ bXz := Nat.ne_of_gt Xz.lt
        have ne_SS_BD : wa7.heap.size ≠ bb := Nat.ne_of_gt BD.2
        have ne_SS_PP : wa7.heap.size ≠ bPP := Nat.ne_of_gt PP.lt
        have le_SS : W.heap.size ≤ wa7.heap.size := hg.out.kp.size
        have SS := C2.new wa7 (.int .i64 0) (.int .i64 0) 25
        have FSS := Fz.new wa7 #[.int .i64 0, .int .i64 0] 25
        replace Xx := Xx.alloc (.cells #[.int .i64 0, .int .i64 0] 25)
        replace Xy := Xy.alloc (.cells #[.int .i64 0, .int .i64 0] 25)
        replace Xz := Xz.alloc (.cells #[.int .i64 0, .int .i64 0] 25)
        replace BD := BD.alloc (.cells #[.int .i64 0, .int .i64 0] 25)
        replace FBD := FBD.alloc (.cells #[.int .i64 0, .int .i64 0] 25)
        replace PP := PP.alloc (.cells #[.int .i64 0, .int .i64 0] 25)
        replace FPP := FPP.alloc (.cells #[.int .i64 0, .int .i64 0] 25)
        replace hg := Lib.hid (hg.out.alloc (.cells #[.int .i64 0, .int .i64 0] 25))
        generalize wa7.alloc (.cells #[.int .i64 0, .int .i64 0] 25) = wa8 at *
        generalize wa7.heap.size = bSS at *
        refine and_keep ⟨Xx.c0, Xx.c1, Xy.c0, Xy.c1⟩ (fun hS => ?_)
        have SS_0 := SS.c0
        have SS_1 := SS.c1
        have FSS_2 := FSS.2
        refine anyN_one 10 rfl (by kernel_rfl) rfl ?_
        go_simp
        clear SS_0 SS_1 FSS_2
        replace Xx := Xx.far2 ne_SS_Xx (.int .i64 sn) (.int .i64 sd)
        replace Xy := Xy.far2 ne_SS_Xy (.int .i64 sn) (.int .i64 sd)
        replace Xz := Xz.far2 ne_SS_Xz (.int .i64 sn) (.int .i64 sd)
        replace BD := BD.far2 (B := bSS) ne_SS_BD (.int .i64 sn) (.int .i64 sd)
        replace FBD := (FBD.set ⟨bSS, 0, none⟩ (.int .i64 sn)).set ⟨bSS, 1, none⟩ (.int .i64 sd)
        replace PP := PP.far2 ne_SS_PP (.int .i64 sn) (.int .i64 sd)
        replace FPP := (FPP.set ⟨bSS, 0, none⟩ (.int .i64 sn)).set ⟨bSS, 1, none⟩ (.int .i64 sd)
        replace SS := SS.set (.int .i64 sn) (.int .i64 sd)
        replace FSS := (FSS.set ⟨bSS, 0, none⟩ (.int .i64 sn)).set ⟨bSS, 1, none⟩ (.int .i64 sd)
        replace hg := Lib.hid (hg.out.set2 (B := bSS) le_SS (.int .i64 sn) (.int .i64 sd))
        generalize World.setCell _ _ _ = ws9 at *
        have PP_0 := PP.c0
        have PP_1 := PP.c1
        have FPP_2 := FPP.2
        refine anyN_one 11 rfl (by kernel_rfl) rfl ?_
        go_simp
        clear PP_0 PP_1 FPP_2
        replace Xx := Xx.far2 ne_PP_Xx (.int .i64 pn) (.int .i64 pd)
        replace Xy := Xy.far2 ne_PP_Xy (.int .i64 pn) (.int .i64 pd)
        replace Xz := Xz.far2 ne_PP_Xz (.int .i64 pn) (.int .i64 pd)
        replace BD := BD.far2 (B := bPP) ne_PP_BD (.int .i64 pn) (.int .i64 pd)
        replace FBD := (FBD.set ⟨bPP, 0, none⟩ (.int .i64 pn)).set ⟨bPP, 1, none⟩ (.int .i64 pd)
        replace PP := PP.set (.int .i64 pn) (.int .i64 pd)
        replace FPP := (FPP.set ⟨bPP, 0, none⟩ (.int .i64 pn)).set ⟨bPP, 1, none⟩ (.int .i64 pd)
        replace SS := SS.far2 ne_SS_PP.symm (.int .i64 pn) (.int .i64 pd)
        replace FSS := (FSS.set ⟨bPP, 0, none⟩ (.int .i64 pn)).set ⟨bPP, 1, none⟩ (.int .i64 pd)
        replace hg := Lib.hid (hg.out.set2 (B := bPP) le_PP (.int .i64 pn) (.int .i64 pd))
        generalize World.setCell _ _ _ = ws10 at *
        refine anyN_done (by kernel_rfl) ?_
        clear hS
        refine NoPanic.normal (hexit _ _ _ _ _ _ _ _ _ _ _ ?_)
        exact ⟨_, _, rfl, rfl, SS, PP, Xx, Xy, Xz, zd_mk BD FBD, hg.out⟩
    · go_simp
      have ne_SS_Xx : wv1.heap.size ≠ bXx := Nat.ne_of_gt Xx.lt
      have ne_SS_Xy : wv1.heap.size ≠ bXy := Nat.ne_of_gt Xy.lt
      have ne_SS_Xz : wv1.heap.size ≠ bXz := Nat.ne_of_gt Xz.lt
      have ne_SS_BD : wv1.heap.size ≠ bb := Nat.ne_of_gt BD.2
      have le_SS : W.heap.size ≤ wv1.heap.size := hg.out.kp.size
      have SS := C2.new wv1 (.int .i64 0) (.int .i64 0) 25
      have FSS := Fz.new wv1 #[.int .i64 0, .int .i64 0] 25
      replace Xx := Xx.alloc (.cells #[.int .i64 0, .int .i64 0] 25)
      replace Xy := Xy.alloc (.cells #[.int .i64 0, .int .i64 0] 25)
      replace Xz := Xz.alloc (.cells #[.int .i64 0, .int .i64 0] 25)
      replace BD := BD.alloc (.cells #[.int .i64 0, .int .i64 0] 25)
      replace FBD := FBD.alloc (.cells #[.int .i64 0, .int .i64 0] 25)
      replace hg := Lib.hid (hg.out.alloc (.cells #[.int .i64 0, .int .i64 0] 25))
      generalize wv1.alloc (.cells #[.int .i64 0, .int .i64 0] 25) = wa11 at *
      generalize wv1.heap.size = bSS at *
      refine and_keep ⟨Xx.c0, Xx.c1, Xy.c0, Xy.c1⟩ (fun hS => ?_)
      refine anyN_two 7 9 rfl rfl (by kernel_rfl) rfl rfl ?_ ?_
      · go_simp
        (with_reducible refine (HD2 _ _ (zd_mk BD FBD)).out.mono ?_)
        rintro e wv12 ⟨rfl, hg1⟩
        have k1 := hg1.kp
        replace Xx := Xx.kp k1
        replace Xy := Xy.kp k1
        replace Xz := Xz.kp k1
        replace BD := BD.kp k1
        replace FBD := FBD.kp k1
        replace SS := SS.kp k1
        replace FSS := FSS.kp k1
        replace hg := Lib.hid (hg.out.trans hg1)
        clear k1 hg1
        dsimp only
        refine and_keep ⟨Xx.c0, Xx.c1, Xy.c0, Xy.c1⟩ (fun hS => ?_)
        refine anyN_one 9 rfl (by kernel_rfl) rfl ?_
        go_simp
        have ne_PP_Xx : wv12.heap.size ≠ bXx := Nat.ne_of_gt Xx.lt
        have ne_PP_Xy : wv12.heap.size ≠ bXy := Nat.ne_of_gt Xy.lt
        have ne_PP_Xz : wv12.heap.size ≠ bXz := Nat.ne_of_gt Xz.lt
        have ne_PP_BD : wv12.heap.size ≠ bb := Nat.ne_of_gt BD.2
        have ne_PP_SS : wv12.heap.size ≠ bSS := Nat.ne_of_gt SS.lt
        have le_PP : W.heap.size ≤ wv12.heap.size := hg.out.kp.size
        have PP := C2.new wv12 (.int .i64 0) (.int .i64 0) 25
        have FPP := Fz.new wv12 #[.int .i64 0, .int .i64 0] 25
        replace Xx := Xx.alloc (.cells #[.int .i64 0, .int .i64 0] 25)
        replace Xy := Xy.alloc (.cells #[.int .i64 0, .int .i64 0] 25)
        replace Xz := Xz.alloc (.cells #[.int .i64 0, .int .i64 0] 25)
        replace BD := BD.alloc (.cells #[.int .i64 0, .int .i64 0] 25)
        replace FBD := FBD.alloc (.cells #[.int .i64 0, .int .i64 0] 25)
        replace SS := SS.alloc (.cells #[.int .i64 0, .int .i64 0] 25)
        replace FSS := FSS.alloc (.cells #[.int .i64 0, .int .i64 0] 25)
        replace hg := Lib.hid (hg.out.alloc (.cells #[.int .i64 0, .int .i64 0] 25))
        generalize wv12.alloc (.cells #[.int .i64 0, .int .i64 0] 25) = wa13 at *
        generalize wv12.heap.size = bPP at *
        refine and_keep ⟨Xx.c0, Xx.c1, Xy.c0, Xy.c1⟩ (fun hS => ?_)
        have SS_0 := SS.c0
        have SS_1 := SS.c1
        have FSS_2 := FSS.2
        refine anyN_one 10 rfl (by kernel_rfl) rfl ?_
        go_simp
        clear SS_0 SS_1 FSS_2
        replace Xx := Xx.far2 ne_SS_Xx (.int .i64 sn) (.int .i64 sd)
        replace Xy := Xy.far2 ne_SS_Xy (.int .i64 sn) (.int .i64 sd)
        replace Xz := Xz.far2 ne_SS_Xz (.int .i64 sn) (.int .i64 sd)
        replace BD := BD.far2 (B := bSS) ne_SS_BD (.int .i64 sn) (.int .i64 sd)
        replace FBD := (FBD.set ⟨bSS, 0, none⟩ (.int .i64 sn)).set ⟨bSS, 1, none⟩ (.int .i64 sd)
        replace SS := SS.set (.int .i64 sn) (.int .i64 sd)
        replace FSS := (FSS.set ⟨bSS, 0, none⟩ (.int .i64 sn)).set ⟨bSS, 1, none⟩ (.int .i64 sd)
        replace PP := PP.far2 ne_PP_SS.symm (.int .i64 sn) (.int .i64 sd)
        replace FPP := (FPP.set ⟨bSS, 0, none⟩ (.int .i64 sn)).set ⟨bSS, 1, none⟩ (.int .i64 sd)
        replace hg := Lib.hid (hg.out.set2 (B := bSS) le_SS (.int .i64 sn) (.int .i64 sd))
        generalize World.setCell _ _ _ = ws14 at *
        have PP_0 := PP.c0
        have PP_1 := PP.c1
        have FPP_2 := FPP.2
        refine anyN_one 11 rfl (by kernel_rfl) rfl ?_
        go_simp
        clear PP_0 PP_1 FPP_2
        replace Xx := Xx.far2 ne_PP_Xx (.int .i64 pn) (.int .i64 pd)
        replace Xy := Xy.far2 ne_PP_Xy (.int .i64 pn) (.int .i64 pd)
        replace Xz := Xz.far2 ne_PP_Xz (.int .i64 pn) (.int .i64 pd)
        replace BD := BD.far2 (B := bPP) ne_PP_BD (.int .i64 pn) (.int .i64 pd)
        replace FBD := (FBD.set ⟨bPP, 0, none⟩ (.int .i64 pn)).set ⟨bPP, 1, none⟩ (.int .i64 pd)
        replace SS := SS.far2 ne_PP_SS (.int .i64 pn) (.int .i64 pd)
        replace FSS := (FSS.set ⟨bPP, 0, none⟩ (.int .i64 pn)).set ⟨bPP, 1, none⟩ (.int .i64 pd)
        replace PP := PP.set (.int .i64 pn) (.int .i64 pd)
        replace FPP := (FPP.set ⟨bPP, 0, none⟩ (.int .i64 pn)).set ⟨bPP, 1, none⟩ (.int .i64 pd)
        replace hg := Lib.hid (hg.out.set2 (B := bPP) le_PP (.int .i64 pn) (.int .i64 pd))
        generalize World.setCell _ _ _ = ws15 at *
        refine anyN_done (by kernel_rfl) ?_
        clear hS
        refine NoPanic.normal (hexit _ _ _ _ _ _ _ _ _ _ _ ?_)
        exact ⟨_, _, rfl, rfl, SS, PP, Xx, Xy, Xz, zd_mk BD FBD, hg.out⟩
      · go_simp
        have ne_PP_Xx : wa11.heap.size ≠ bXx := Nat.ne_of_gt Xx.lt
        have ne_PP_Xy : wa11.heap.size ≠ bXy := Nat.ne_of_gt Xy.lt
        have ne_PP_Xz : wa11.heap.size ≠ bXz := Nat.ne_of_gt Xz.lt
        have ne_PP_BD : wa11.heap.size ≠ bb := Nat.ne_of_gt BD.2
        have ne_PP_SS : wa11.heap.size ≠ bSS := Nat.ne_of_gt SS.lt
        have le_PP : W.heap.size ≤ wa11.heap.size := hg.out.kp.size
        have PP := C2.new wa11 (.int .i64 0) (.int .i64 0) 25
        have FPP := Fz.new wa11 #[.int .i64 0, .int .i64 0] 25
        replace Xx := Xx.alloc (.cells #[.int .i64 0, .int .i64 0] 25)
        replace Xy := Xy.alloc (.cells #[.int .i64 0, .int .i64 0] 25)
        replace Xz := Xz.alloc (.cells #[.int .i64 0, .int .i64 0] 25)
        replace BD := BD.alloc (.cells #[.int .i64 0, .int .i64 0] 25)
        replace FBD := FBD.alloc (.cells #[.int .i64 0, .int .i64 0] 25)
        replace SS := SS.alloc (.cells #[.int .i64 0, .int .i64 0] 25)
        replace FSS := FSS.alloc (.cells #[.int .i64 0, .int .i64 0] 25)
        replace hg := Lib.hid (hg.out.alloc (.cells #[.int .i64 0, .int .i64 0] 25))
        generalize wa11.alloc (.cells #[.int .i64 0, .int .i64 0] 25) = wa16 at *
        generalize wa11.heap.size = bPP at *
        refine and_keep ⟨Xx.c0, Xx.c1, Xy.c0, Xy.c1⟩ (fun hS => ?_)
        refine anyN_one 7 rfl (by kernel_rfl) rfl ?_
        go_simp
        (with_reducible refine (HD2 _ _ (zd_mk BD FBD)).out.mono ?_)
        rintro e wv17 ⟨rfl, hg1⟩
        have k1 := hg1.kp
        replace Xx := Xx.kp k1
        replace Xy := Xy.kp k1
        replace Xz := Xz.kp k1
        replace BD := BD.kp k1
        replace FBD := FBD.kp k1
        replace SS := SS.kp k1
        replace FSS := FSS.kp k1
        replace PP := PP.kp k1
        replace FPP := FPP.kp k1
        replace hg := Lib.hid (hg.out.trans hg1)
        clear k1 hg1
        dsimp only
        refine and_keep ⟨Xx.c0, Xx.c1, Xy.c0, Xy.c1⟩ (fun hS => ?_)
        have SS_0 := SS.c0
        have SS_1 := SS.c1
        have FSS_2 := FSS.2
        refine anyN_one 10 rfl (by kernel_rfl) rfl ?_
        go_simp
        clear SS_0 SS_1 FSS_2
        replace Xx := Xx.far2 ne_SS_Xx (.int .i64 sn) (.int .i64 sd)
        replace Xy := Xy.far2 ne_SS_Xy (.int .i64 sn) (.int .i64 sd)
        replace Xz := Xz.far2 ne_SS_Xz (.int .i64 sn) (.int .i64 sd)
        replace BD := BD.far2 (B := bSS) ne_SS_BD (.int .i64 sn) (.int .i64 sd)
        replace FBD := (FBD.set ⟨bSS, 0, none⟩ (.int .i64 sn)).set ⟨bSS, 1, none⟩ (.int .i64 sd)
        replace SS := SS.set (.int .i64 sn) (.int .i64 sd)
        replace FSS := (FSS.set ⟨bSS, 0, none⟩ (.int .i64 sn)).set ⟨bSS, 1, none⟩ (.int .i64 sd)
        replace PP := PP.far2 ne_PP_SS.symm (.int .i64 sn) (.int .i64 sd)
        replace FPP := (FPP.set ⟨bSS, 0, none⟩ (.int .i64 sn)).set ⟨bSS, 1, none⟩ (.int .i64 sd)
        replace hg := Lib.hid (hg.out.set2 (B := bSS) le_SS (.int .i64 sn) (.int .i64 sd))
        generalize World.setCell _ _ _ = ws18 at *
        have PP_0 := PP.c0
        have PP_1 := PP.c1
        have FPP_2 := FPP.2
        refine anyN_one 11 rfl (by kernel_rfl) rfl ?_
        go_simp
        clear PP_0 PP_1 FPP_2
        replace Xx := Xx.far2 ne_PP_Xx (.int .i64 pn) (.int .i64 pd)
        replace Xy := Xy.far2 ne_PP_Xy (.int .i64 pn) (.int .i64 pd)
        replace Xz := Xz.far2 ne_PP_Xz (.int .i64 pn) (.int .i64 pd)
        replace BD := BD.far2 (B := bPP) ne_PP_BD (.int .i64 pn) (.int .i64 pd)
        replace FBD := (FBD.set ⟨bPP, 0, none⟩ (.int .i64 pn)).set ⟨bPP, 1, none⟩ (.int .i64 pd)
        replace SS := SS.far2 ne_PP_SS (.int .i64 pn) (.int .i64 pd)
        replace FSS := (FSS.set ⟨bPP, 0, none⟩ (.int .i64 pn)).set ⟨bPP, 1, none⟩ (.int .i64 pd)
        replace PP := PP.set (.int .i64 pn) (.int .i64 pd)
        replace FPP := (FPP.set ⟨bPP, 0, none⟩ (.int .i64 pn)).set ⟨bPP, 1, none⟩ (.int .i64 pd)
        replace hg := Lib.hid (hg.out.set2 (B := bPP) le_PP (.int .i64 pn) (.int .i64 pd))
        generalize World.setCell _ _ _ = ws19 at *
        refine anyN_done (by kernel_rfl) ?_
        clear hS
        refine NoPanic.normal (hexit _ _ _ _ _ _ _ _ _ _ _ ?_)
        exact ⟨_, _, rfl, rfl, SS, PP, Xx, Xy, Xz, zd_mk BD FBD, hg.out⟩
    · go_simp
      have ne_PP_Xx : wv1.heap.size ≠ bXx := Nat.ne_of_gt Xx.lt
      have ne_PP_Xy : wv1.heap.size ≠ bXy := Nat.ne_of_gt Xy.lt
      have ne_PP_Xz : wv1.heap.size ≠ bXz := Nat.ne_of_gt Xz.lt
      have ne_PP_BD : wv1.heap.size ≠ bb := Nat.ne_of_gt BD.2
      have le_PP : W.heap.size ≤ wv1.heap.size := hg.out.kp.size
      have PP := C2.new wv1 (.int .i64 0) (.int .i64 0) 25
      have FPP := Fz.new wv1 #[.int .i64 0, .int .i64 0] 25
      replace Xx := Xx.alloc (.cells #[.int .i64 0, .int .i64 0] 25)
      replace Xy := Xy.alloc (.cells #[.int .i64 0, .int .i64 0] 25)
      replace Xz := Xz.alloc (.cells #[.int .i64 0, .int .i64 0] 25)
      replace BD := BD.alloc (.cells #[.int .i64 0, .int .i64 0] 25)
      replace FBD := FBD.alloc (.cells #[.int .i64 0, .int .i64 0] 25)
      replace hg := Lib.hid (hg.out.alloc (.cells #[.int .i64 0, .int .i64 0] 25))
      generalize wv1.alloc (.cells #[.int .i64 0, .int .i64 0] 25) = wa20 at *
      generalize wv1.heap.size = bPP at *
      refine and_keep ⟨Xx.c0, Xx.c1, Xy.c0, Xy.c1⟩ (fun hS => ?_)
      refine anyN_two 7 8 rfl rfl (by kernel_rfl) rfl rfl ?_ ?_
      · go_simp
        (with_reducible refine (HD2 _ _ (zd_mk BD FBD)).out.mono ?_)
        rintro e wv21 ⟨rfl, hg1⟩
        have k1 := hg1.kp
        replace Xx := Xx.kp k1
        replace Xy := Xy.kp k1
        replace Xz := Xz.kp k1
        replace BD := BD.kp k1
        replace FBD := FBD.kp k1
        replace PP := PP.kp k1
        replace FPP := FPP.kp k1
        replace hg := Lib.hid (hg.out.trans hg1)
        clear k1 hg1
        dsimp only
        refine and_keep ⟨Xx.c0, Xx.c1, Xy.c0, Xy.c1⟩ (fun hS => ?_)
        refine anyN_one 8 rfl (by kernel_rfl) rfl ?_
        go_simp
        have ne_SS_Xx : wv21.heap.size ≠ bXx := Nat.ne_of_gt Xx.lt
        have ne_SS_Xy : wv21.heap.size ≠ bXy := Nat.ne_of_gt Xy.lt
        have ne_SS_Xz : wv21.heap.size ≠ bXz := Nat.ne_of_gt Xz.lt
        have ne_SS_BD : wv21.heap.size ≠ bb := Nat.ne_of_gt BD.2
        have ne_SS_PP : wv21.heap.size ≠ bPP := Nat.ne_of_gt PP.lt
        have le_SS : W.heap.size ≤ wv21.heap.size := hg.out.kp.size
        have SS := C2.new wv21 (.int .i64 0) (.int .i64 0) 25
        have FSS := Fz.new wv21 #[.int .i64 0, .int .i64 0] 25
        replace Xx := Xx.alloc (.cells #[.int .i64 0, .int .i64 0] 25)
        replace Xy := Xy.alloc (.cells #[.int .i64 0, .int .i64 0] 25)
        replace Xz := Xz.alloc (.cells #[.int .i64 0, .int .i64 0] 25)
        replace BD := BD.alloc (.cells #[.int .i64 0, .int .i64 0] 25)
        replace FBD := FBD.alloc (.cells #[.int .i64 0, .int .i64 0] 25)
        replace PP := PP.alloc (.cells #[.int .i64 0, .int .i64 0] 25)
        replace FPP := FPP.alloc (.cells #[.int .i64 0, .int .i64 0] 25)
        replace hg := Lib.hid (hg.out.alloc (.cells #[.int .i64 0, .int .i64 0] 25))
        generalize wv21.alloc (.cells #[.int .i64 0, .int .i64 0] 25) = wa22 at *
        generalize wv21.heap.size = bSS at *
        refine and_keep ⟨Xx.c0, Xx.c1, Xy.c0, Xy.c1⟩ (fun hS => ?_)
        have SS_0 := SS.c0
        have SS_1 := SS.c1
        have FSS_2 := FSS.2
        refine anyN_one 10 rfl (by kernel_rfl) rfl ?_
        go_simp
        clear SS_0 SS_1 FSS_2
        replace Xx := Xx.far2 ne_SS_Xx (.int .i64 sn) (.int .i64 sd)
        replace Xy := Xy.far2 ne_SS_Xy (.int .i64 sn) (.int .i64 sd)
        replace Xz := Xz.far2 ne_SS_Xz (.int .i64 sn) (.int .i64 sd)
        replace BD := BD.far2 (B := bSS) ne_SS_BD (.int .i64 sn) (.int .i64 sd)
        replace FBD := (FBD.set ⟨bSS, 0, none⟩ (.int .i64 sn)).set ⟨bSS, 1, none⟩ (.int .i64 sd)
        replace PP := PP.far2 ne_SS_PP (.int .i64 sn) (.int .i64 sd)
        replace FPP := (FPP.set ⟨bSS, 0, none⟩ (.int .i64 sn)).set ⟨bSS, 1, none⟩ (.int .i64 sd)
        replace SS := SS.set (.int .i64 sn) (.int .i64 sd)
        replace FSS := (FSS.set ⟨bSS, 0, none⟩ (.int .i64 sn)).set ⟨bSS, 1, none⟩ (.int .i64 sd)
        replace hg := Lib.hid (hg.out.set2 (B := bSS) le_SS (.int .i64 sn) (.int .i64 sd))
        generalize World.setCell _ _ _ = ws23 at *
        have PP_0 := PP.c0
        have PP_1 := PP.c1
        have FPP_2 := FPP.2
        refine anyN_one 11 rfl (by kernel_rfl) rfl ?_
        go_simp
        clear PP_0 PP_1 FPP_2
        replace Xx := Xx.far2 ne_PP_Xx (.int .i64 pn) (.int .i64 pd)
        replace Xy := Xy.far2 ne_PP_Xy (.int .i64 pn) (.int .i64 pd)
        replace Xz := Xz.far2 ne_PP_Xz (.int .i64 pn) (.int .i64 pd)
        replace BD := BD.far2 (B := bPP) ne_PP_BD (.int .i64 pn) (.int .i64 pd)
        replace FBD := (FBD.set ⟨bPP, 0, none⟩ (.int .i64 pn)).set ⟨bPP, 1, none⟩ (.int .i64 pd)
        replace PP := PP.set (.int .i64 pn) (.int .i64 pd)
        replace FPP := (FPP.set ⟨bPP, 0, none⟩ (.int .i64 pn)).set ⟨bPP, 1, none⟩ (.int .i64 pd)
        replace SS := SS.far2 ne_SS_PP.symm (.int .i64 pn) (.int .i64 pd)
        replace FSS := (FSS.set ⟨bPP, 0, none⟩ (.int .i64 pn)).set ⟨bPP, 1, none⟩ (.int .i64 pd)
        replace hg := Lib.hid (hg.out.set2 (B := bPP) le_PP (.int .i64 pn) (.int .i64 pd))
        generalize World.setCell _ _ _ = ws24 at *
        refine anyN_done (by kernel_rfl) ?_
        clear hS
        refine NoPanic.normal (hexit _ _ _ _ _ _ _ _ _ _ _ ?_)
        exact ⟨_, _, rfl, rfl, SS, PP, Xx, Xy, Xz, zd_mk BD FBD, hg.out⟩
      · go_simp
        have ne_SS_Xx : wa20.heap.size ≠ bXx := Nat.ne_of_gt Xx.lt
        have ne_SS_Xy : wa20.heap.size ≠ bXy := Nat.ne_of_gt Xy.lt
        have ne_SS_Xz : wa20.heap.size ≠ bXz := Nat.ne_of_gt Xz.lt
        have ne_SS_BD : wa20.heap.size ≠ bb := Nat.ne_of_gt BD.2
        have ne_SS_PP : wa20.heap.size ≠ bPP := Nat.ne_of_gt PP.lt
        have le_SS : W.heap.size ≤ wa20.heap.size := hg.out.kp.size
        have SS := C2.new wa20 (.int .i64 0) (.int .i64 0) 25
        have FSS := Fz.new wa20 #[.int .i64 0, .int .i64 0] 25
        replace Xx := Xx.alloc (.cells #[.int .i64 0, .int .i64 0] 25)
        replace Xy := Xy.alloc (.cells #[.int .i64 0, .int .i64 0] 25)
        replace Xz := Xz.alloc (.cells #[.int .i64 0, .int .i64 0] 25)
        replace BD := BD.alloc (.cells #[.int .i64 0, .int .i64 0] 25)
        replace FBD := FBD.alloc (.cells #[.int .i64 0, .int .i64 0] 25)
        replace PP := PP.alloc (.cells #[.int .i64 0, .int .i64 0] 25)
        replace FPP := FPP.alloc (.cells #[.int .i64 0, .int .i64 0] 25)
        replace hg := Lib.hid (hg.out.alloc (.cells #[.int .i64 0, .int .i64 0] 25))
        generalize wa20.alloc (.cells #[.int .i64 0, .int .i64 0] 25) = wa25 at *
        generalize wa20.heap.size = bSS at *
        refine and_keep ⟨Xx.c0, Xx.c1, Xy.c0, Xy.c1⟩ (fun hS => ?_)
        refine anyN_one 7 rfl (by kernel_rfl) rfl ?_
        go_simp
        (with_reducible refine (HD2 _ _ (zd_mk BD FBD)).out.mono ?_)
        rintro e wv26 ⟨rfl, hg1⟩
        have k1 := hg1.kp
        replace Xx := Xx.kp k1
        replace Xy := Xy.kp k1
        replace Xz := Xz.kp k1
        replace BD := BD.kp k1
        replace FBD := FBD.kp k1
        replace PP := PP.kp k1
        replace FPP := FPP.kp k1
        replace SS := SS.kp k1
        replace FSS := FSS.kp k1
        replace hg := Lib.hid (hg.out.trans hg1)
        clear k1 hg1
        dsimp only
        refine and_keep ⟨Xx.c0, Xx.c1, Xy.c0, Xy.c1⟩ (fun hS => ?_)
        have SS_0 := SS.c0
        have SS_1 := SS.c1
        have FSS_2 := FSS.2
        refine anyN_one 10 rfl (by kernel_rfl) rfl ?_
        go_simp
        clear SS_0 SS_1 FSS_2
        replace Xx := Xx.far2 ne_SS_Xx (.int .i64 sn) (.int .i64 sd)
        replace Xy := Xy.far2 ne_SS_Xy (.int .i64 sn) (.int .i64 sd)
        replace Xz := Xz.far2 ne_SS_Xz (.int .i64 sn) (.int .i64 sd)
        replace BD := BD.far2 (B := bSS) ne_SS_BD (.int .i64 sn) (.int .i64 sd)
        replace FBD := (FBD.set ⟨bSS, 0, none⟩ (.int .i64 sn)).set ⟨bSS, 1, none⟩ (.int .i64 sd)
        replace PP := PP.far2 ne_SS_PP (.int .i64 sn) (.int .i64 sd)
        replace FPP := (FPP.set ⟨bSS, 0, none⟩ (.int .i64 sn)).set ⟨bSS, 1, none⟩ (.int .i64 sd)
        replace SS := SS.set (.int .i64 sn) (.int .i64 sd)
        replace FSS := (FSS.set ⟨bSS, 0, none⟩ (.int .i64 sn)).set ⟨bSS, 1, none⟩ (.int .i64 sd)
        replace hg := Lib.hid (hg.out.set2 (B := bSS) le_SS (.int .i64 sn) (.int .i64 sd))
        generalize World.setCell _ _ _ = ws27 at *
        have PP_0 := PP.c0
        have PP_1 := PP.c1
        have FPP_2 := FPP.2
        refine anyN_one 11 rfl (by kernel_rfl) rfl ?_
        go_simp
        clear PP_0 PP_1 FPP_2
        replace Xx := Xx.far2 ne_PP_Xx (.int .i64 pn) (.int .i64 pd)
        replace Xy := Xy.far2 ne_PP_Xy (.int .i64 pn) (.int .i64 pd)
        replace Xz := Xz.far2 ne_PP_Xz (.int .i64 pn) (.int .i64 pd)
        replace BD := BD.far2 (B := bPP) ne_PP_BD (.int .i64 pn) (.int .i64 pd)
        replace FBD := (FBD.set ⟨bPP, 0, none⟩ (.int .i64 pn)).set ⟨bPP, 1, none⟩ (.int .i64 pd)
        replace PP := PP.set (.int .i64 pn) (.int .i64 pd)
        replace FPP := (FPP.set ⟨bPP, 0, none⟩ (.int .i64 pn)).set ⟨bPP, 1, none⟩ (.int .i64 pd)
        replace SS := SS.far2 ne_SS_PP.symm (.int .i64 pn) (.int .i64 pd)
        replace FSS := (FSS.set ⟨bPP, 0, none⟩ (.int .i64 pn)).set ⟨bPP, 1, none⟩ (.int .i64 pd)
        replace hg := Lib.hid (hg.out.set2 (B := bPP) le_PP (.int .i64 pn) (.int .i64 pd))
        generalize World.setCell _ _ _ = ws28 at *
        refine anyN_done (by kernel_rfl) ?_
        clear hS
        refine NoPanic.normal (hexit _ _ _ _ _ _ _ _ _ _ _ ?_)
        exact ⟨_, _, rfl, rfl, SS, PP, Xx, Xy, Xz, zd_mk BD FBD, hg.out⟩
  · go_simp
    have ne_SS_Xx : w0.heap.size ≠ bXx := Nat.ne_of_gt Xx.lt
    have ne_SS_Xy : w0.heap.size ≠ bXy := Nat.ne_of_gt Xy.lt
    have ne_SS_Xz : w0.heap.size ≠ bXz := Nat.ne_of_gt Xz.lt
    have ne_SS_BD : w0.heap.size ≠ bb := Nat.ne_of_gt BD.2
    have le_SS : W.heap.size ≤ w0.heap.size := hg.out.kp.size
    have SS := C2.new w0 (.int .i64 0) (.int .i64 0) 25
    have FSS := Fz.new w0 #[.int .i64 0, .int .i64 0] 25
    replace Xx := Xx.alloc (.cells #[.int .i64 0, .int .i64 0] 25)
    replace Xy := Xy.alloc (.cells #[.int .i64 0, .int .i64 0] 25)
    replace Xz := Xz.alloc (.cells #[.int .i64 0, .int .i64 0] 25)
    replace BD := BD.alloc (.cells #[.int .i64 0, .int .i64 0] 25)
    replace FBD := FBD.alloc (.cells #[.int .i64 0, .int .i64 0] 25)
    replace hg := Lib.hid (hg.out.alloc (.cells #[.int .i64 0, .int .i64 0] 25))
    generalize w0.alloc (.cells #[.int .i64 0, .int .i64 0] 25) = wa29 at *
    generalize w0.heap.size = bSS at *
    refine and_keep ⟨Xx.c0, Xx.c1, Xy.c0, Xy.c1⟩ (fun hS => ?_)
    refine anyN_two 3 9 rfl rfl (by kernel_rfl) rfl rfl ?_ ?_
    · go_simp
      (with_reducible refine (HD1 _ _ (zd_mk BD FBD)).out.mono ?_)
      rintro e wv30 ⟨rfl, hg1⟩
      have k1 := hg1.kp
      replace Xx := Xx.kp k1
      replace Xy := Xy.kp k1
      replace Xz := Xz.kp k1
      replace BD := BD.kp k1
      replace FBD := FBD.kp k1
      replace SS := SS.kp k1
      replace FSS := FSS.kp k1
      replace hg := Lib.hid (hg.out.trans hg1)
      clear k1 hg1
      dsimp only
      refine and_keep ⟨Xx.c0, Xx.c1, Xy.c0, Xy.c1⟩ (fun hS => ?_)
      refine anyN_two 7 9 rfl rfl (by kernel_rfl) rfl rfl ?_ ?_
      · go_simp
        (with_reducible refine (HD2 _ _ (zd_mk BD FBD)).out.mono ?_)
        rintro e wv31 ⟨rfl, hg1⟩
        have k1 := hg1.kp
        replace Xx := Xx.kp k1
        replace Xy := Xy.kp k1
        replace Xz := Xz.kp k1
        replace BD := BD.kp k1
        replace FBD := FBD.kp k1
        replace SS := SS.kp k1
        replace FSS := FSS.kp k1
        replace hg := Lib.hid (hg.out.trans hg1)
        clear k1 hg1
        dsimp only
        refine and_keep ⟨Xx.c0, Xx.c1, Xy.c0, Xy.c1⟩ (fun hS => ?_)
        refine anyN_one 9 rfl (by kernel_rfl) rfl ?_
        go_simp
        have ne_PP_Xx : wv31.heap.size ≠ bXx := Nat.ne_of_gt Xx.lt
        have ne_PP_Xy : wv31.heap.size ≠ bXy := Nat.ne_of_gt Xy.lt
        have ne_PP_Xz : wv31.heap.size ≠ bXz := Nat.ne_of_gt Xz.lt
        have ne_PP_BD : wv31.heap.size ≠ bb := Nat.ne_of_gt BD.2
        have ne_PP_SS : wv31.heap.size ≠ bSS := Nat.ne_of_gt SS.lt
        have le_PP : W.heap.size ≤ wv31.heap.size := hg.out.kp.size
        have PP := C2.new wv31 (.int .i64 0) (.int .i64 0) 25
        have FPP := Fz.new wv31 #[.int .i64 0, .int .i64 0] 25
        replace Xx := Xx.alloc (.cells #[.int .i64 0, .int .i64 0] 25)
        replace Xy := Xy.alloc (.cells #[.int .i64 0, .int .i64 0] 25)
        replace Xz := Xz.alloc (.cells #[.int .i64 0, .int .i64 0] 25)
        replace BD := BD.alloc (.cells #[.int .i64 0, .int .i64 0] 25)
        replace FBD := FBD.alloc (.cells #[.int .i64 0, .int .i64 0] 25)
        replace SS := SS.alloc (.cells #[.int .i64 0, .int .i64 0] 25)
        replace FSS := FSS.alloc (.cells #[.int .i64 0, .int .i64 0] 25)
        replace hg := Lib.hid (hg.out.alloc (.cells #[.int .i64 0, .int .i64 0] 25))
        generalize wv31.alloc (.cells #[.int .i64 0, .int .i64 0] 25) = wa32 at *
        generalize wv31.heap.size = bPP at *
        refine and_keep ⟨Xx.c0, Xx.c1, Xy.c0, Xy.c1⟩ (fun hS => ?_)
        have SS_0 := SS.c0
        have SS_1 := SS.c1
        have FSS_2 := FSS.2
        refine anyN_one 10 rfl (by kernel_rfl) rfl ?_
        go_simp
        clear SS_0 SS_1 FSS_2
        replace Xx := Xx.far2 ne_SS_Xx (.int .i64 sn) (.int .i64 sd)
        replace Xy := Xy.far2 ne_SS_Xy (.int .i64 sn) (.int .i64 sd)
        replace Xz := Xz.far2 ne_SS_Xz (.int .i64 sn) (.int .i64 sd)
        replace BD := BD.far2 (B := bSS) ne_SS_BD (.int .i64 sn) (.int .i64 sd)
        replace FBD := (FBD.set ⟨bSS, 0, none⟩ (.int .i64 sn)).set ⟨bSS, 1, none⟩ (.int .i64 sd)
        replace SS := SS.set (.int .i64 sn) (.int .i64 sd)
        replace FSS := (FSS.set ⟨bSS, 0, none⟩ (.int .i64 sn)).set ⟨bSS, 1, none⟩ (.int .i64 sd)
        replace PP := PP.far2 ne_PP_SS.symm (.int .i64 sn) (.int .i64 sd)
        replace FPP := (FPP.set ⟨bSS, 0, none⟩ (.int .i64 sn)).set ⟨bSS, 1, none⟩ (.int .i64 sd)
        replace hg := Lib.hid (hg.out.set2 (B := bSS) le_SS (.int .i64 sn) (.int .i64 sd))
        generalize World.setCell _ _ _ = ws33 at *
        have PP_0 := PP.c0
        have PP_1 := PP.c1
        have FPP_2 := FPP.2
        refine anyN_one 11 rfl (by kernel_rfl) rfl ?_
        go_simp
        clear PP_0 PP_1 FPP_2
        replace Xx := Xx.far2 ne_PP_Xx (.int .i64 pn) (.int .i64 pd)
        replace Xy := Xy.far2 ne_PP_Xy (.int .i64 pn) (.int .i64 pd)
        replace Xz := Xz.far2 ne_PP_Xz (.int .i64 pn) (.int .i64 pd)
        replace BD := BD.far2 (B := bPP) ne_PP_BD (.int .i64 pn) (.int .i64 pd)
        replace FBD := (FBD.set ⟨bPP, 0, none⟩ (.int .i64 pn)).set ⟨bPP, 1, none⟩ (.int .i64 pd)
        replace SS := SS.far2 ne_PP_SS (.int .i64 pn) (.int .i64 pd)
        replace FSS := (FSS.set ⟨bPP, 0, none⟩ (.int .i64 pn)).set ⟨bPP, 1, none⟩ (.int .i64 pd)
        replace PP := PP.set (.int .i64 pn) (.int .i64 pd)
        replace FPP := (FPP.set ⟨bPP, 0, none⟩ (.int .i64 pn)).set ⟨bPP, 1, none⟩ (.int .i64 pd)
        replace hg := Lib.hid (hg.out.set2 (B := bPP) le_PP (.int .i64 pn) (.int .i64 pd))
        generalize World.setCell _ _ _ = ws34 at *
        refine anyN_done (by kernel_rfl) ?_
        clear hS
        refine NoPanic.normal (hexit _ _ _ _ _ _ _ _ _ _ _ ?_)
        exact ⟨_, _, rfl, rfl, SS, PP, Xx, Xy, Xz, zd_mk BD FBD, hg.out⟩
      · go_simp
        have ne_PP_Xx : wv30.heap.size ≠ bXx := Nat.ne_of_gt Xx.lt
        have ne_PP_Xy : wv30.heap.size ≠ bXy := Nat.ne_of_gt Xy.lt
        have ne_PP_Xz : wv30.heap.size ≠ bXz := Nat.ne_of_gt Xz.lt
        have ne_PP_BD : wv30.heap.size ≠ bb := Nat.ne_of_gt BD.2
        have ne_PP_SS : wv30.heap.size ≠ bSS := Nat.ne_of_gt SS.lt
        have le_PP : W.heap.size ≤ wv30.heap.size := hg.out.kp.size
        have PP := C2.new wv30 (.int .i64 0) (.int .i64 0) 25
        have FPP := Fz.new wv30 #[.int .i64 0, .int .i64 0] 25
        replace Xx := Xx.alloc (.cells #[.int .i64 0, .int .i64 0] 25)
        replace Xy := Xy.alloc (.cells #[.int .i64 0, .int .i64 0] 25)
        replace Xz := Xz.alloc (.cells #[.int .i64 0, .int .i64 0] 25)
        replace BD := BD.alloc (.cells #[.int .i64 0, .int .i64 0] 25)
        replace FBD := FBD.alloc (.cells #[.int .i64 0, .int .i64 0] 25)
        replace SS := SS.alloc (.cells #[.int .i64 0, .int .i64 0] 25)
        replace FSS := FSS.alloc (.cells #[.int .i64 0, .int .i64 0] 25)
        replace hg := Lib.hid (hg.out.alloc (.cells #[.int .i64 0, .int .i64 0] 25))
        generalize wv30.alloc (.cells #[.int .i64 0, .int .i64 0] 25) = wa35 at *
        generalize wv30.heap.size = bPP at *
        refine and_keep ⟨Xx.c0, Xx.c1, Xy.c0, Xy.c1⟩ (fun hS => ?_)
        refine anyN_one 7 rfl (by kernel_rfl) rfl ?_
        go_simp
        (with_reducible refine (HD2 _ _ (zd_mk BD FBD)).out.mono ?_)
        rintro e wv36 ⟨rfl, hg1⟩
        have k1 := hg1.kp
        replace Xx := Xx.kp k1
        replace Xy := Xy.kp k1
        replace Xz := Xz.kp k1
        replace BD := BD.kp k1
        replace FBD := FBD.kp k1
        replace SS := SS.kp k1
        replace FSS := FSS.kp k1
        replace PP := PP.kp k1
        replace FPP := FPP.kp k1
        replace hg := Lib.hid (hg.out.trans hg1)
        clear k1 hg1
        dsimp only
        refine and_keep ⟨Xx.c0, Xx.c1, Xy.c0, Xy.c1⟩ (fun hS => ?_)
        have SS_0 := SS.c0
        have SS_1 := SS.c1
        have FSS_2 := FSS.2
        refine anyN_one 10 rfl (by kernel_rfl) rfl ?_
        go_simp
        clear SS_0 SS_1 FSS_2
        replace Xx := Xx.far2 ne_SS_Xx (.int .i64 sn) (.int .i64 sd)
        replace Xy := Xy.far2 ne_SS_Xy (.int .i64 sn) (.int .i64 sd)
        replace Xz := Xz.far2 ne_SS_Xz (.int .i64 sn) (.int .i64 sd)
        replace BD := BD.far2 (B := bSS) ne_SS_BD (.int .i64 sn) (.int .i64 sd)
        replace FBD := (FBD.set ⟨bSS, 0, none⟩ (.int .i64 sn)).set ⟨bSS, 1, none⟩ (.int .i64 sd)
        replace SS := SS.set (.int .i64 sn) (.int .i64 sd)
        replace FSS := (FSS.set ⟨bSS, 0, none⟩ (.int .i64 sn)).set ⟨bSS, 1, none⟩ (.int .i64 sd)
        replace PP := PP.far2 ne_PP_SS.symm (.int .i64 sn) (.int .i64 sd)
        replace FPP := (FPP.set ⟨bSS, 0, none⟩ (.int .i64 sn)).set ⟨bSS, 1, none⟩ (.int .i64 sd)
        replace hg := Lib.hid (hg.out.set2 (B := bSS) le_SS (.int .i64 sn) (.int .i64 sd))
        generalize World.setCell _ _ _ = ws37 at *
        have PP_0 := PP.c0
        have PP_1 := PP.c1
        have FPP_2 := FPP.2
        refine anyN_one 11 rfl (by kernel_rfl) rfl ?_
        go_simp
        clear PP_0 PP_1 FPP_2
        replace Xx := Xx.far2 ne_PP_Xx (.int .i64 pn) (.int .i64 pd)
        replace Xy := Xy.far2 ne_PP_Xy (.int .i64 pn) (.int .i64 pd)
        replace Xz := Xz.far2 ne_PP_Xz (.int .i64 pn) (.int .i64 pd)
        replace BD := BD.far2 (B := bPP) ne_PP_BD (.int .i64 pn) (.int .i64 pd)
        replace FBD := (FBD.set ⟨bPP, 0, none⟩ (.int .i64 pn)).set ⟨bPP, 1, none⟩ (.int .i64 pd)
        replace SS := SS.far2 ne_PP_SS (.int .i64 pn) (.int .i64 pd)
        replace FSS := (FSS.set ⟨bPP, 0, none⟩ (.int .i64 pn)).set ⟨bPP, 1, none⟩ (.int .i64 pd)
        replace PP := PP.set (.int .i64 pn) (.int .i64 pd)
        replace FPP := (FPP.set ⟨bPP, 0, none⟩ (.int .i64 pn)).set ⟨bPP, 1, none⟩ (.int .i64 pd)
        replace hg := Lib.hid (hg.out.set2 (B := bPP) le_PP (.int .i64 pn) (.int .i64 pd))
        generalize World.setCell _ _ _ = ws38 at *
        refine anyN_done (by kernel_rfl) ?_
        clear hS
        refine NoPanic.normal (hexit _ _ _ _ _ _ _ _ _ _ _ ?_)
        exact ⟨_, _, rfl, rfl, SS, PP, Xx, Xy, Xz, zd_mk BD FBD, hg.out⟩
    · go_simp
      have ne_PP_Xx : wa29.heap.size ≠ bXx := Nat.ne_of_gt Xx.lt
      have ne_PP_Xy : wa29.heap.size ≠ bXy := Nat.ne_of_gt Xy.lt
      have ne_PP_Xz : wa29.heap.size ≠ bXz := Nat.ne_of_gt Xz.lt
      have ne_PP_BD : wa29.heap.size ≠ bb := Nat.ne_of_gt BD.2
      have ne_PP_SS : wa29.heap.size ≠ bSS := Nat.ne_of_gt SS.lt
      have le_PP : W.heap.size ≤ wa29.heap.size := hg.out.kp.size
      have PP := C2.new wa29 (.int .i64 0) (.int .i64 0) 25
      have FPP := Fz.new wa29 #[.int .i64 0, .int .i64 0] 25
      replace Xx := Xx.alloc (.cells #[.int .i64 0, .int .i64 0] 25)
      replace Xy := Xy.alloc (.cells #[.int .i64 0, .int .i64 0] 25)
      replace Xz := Xz.alloc (.cells #[.int .i64 0, .int .i64 0] 25)
      replace BD := BD.alloc (.cells #[.int .i64 0, .int .i64 0] 25)
      replace FBD := FBD.alloc (.cells #[.int .i64 0, .int .i64 0] 25)
      replace SS := SS.alloc (.cells #[.int .i64 0, .int .i64 0] 25)
      replace FSS := FSS.alloc (.cells #[.int .i64 0, .int .i64 0] 25)
      replace hg := Lib.hid (hg.out.alloc (.cells #[.int .i64 0, .int .i64 0] 25))
      generalize wa29.alloc (.cells #[.int .i64 0, .int .i64 0] 25) = wa39 at *
      generalize wa29.heap.size = bPP at *
      refine and_keep ⟨Xx.c0, Xx.c1, Xy.c0, Xy.c1⟩ (fun hS => ?_)
      refine anyN_one 3 rfl (by kernel_rfl) rfl ?_
      go_simp
      (with_reducible refine (HD1 _ _ (zd_mk BD FBD)).out.mono ?_)
      rintro e wv40 ⟨rfl, hg1⟩
      have k1 := hg1.kp
      replace Xx := Xx.kp k1
      replace Xy := Xy.kp k1
      replace Xz := Xz.kp k1
      replace BD := BD.kp k1
      replace FBD := FBD.kp k1
      replace SS := SS.kp k1
      replace FSS := FSS.kp k1
      replace PP := PP.kp k1
      replace FPP := FPP.kp k1
      replace hg := Lib.hid (hg.out.trans hg1)
      clear k1 hg1
      dsimp only
      refine and_keep ⟨Xx.c0, Xx.c1, Xy.c0, Xy.c1⟩ (fun hS => ?_)
      refine anyN_one 7 rfl (by kernel_rfl) rfl ?_
      go_simp
      (with_reducible refine (HD2 _ _ (zd_mk BD FBD)).out.mono ?_)
      rintro e wv41 ⟨rfl, hg1⟩
      have k1 := hg1.kp
      replace Xx := Xx.kp k1
      replace Xy := Xy.kp k1
      replace Xz := Xz.kp k1
      replace BD := BD.kp k1
      replace FBD := FBD.kp k1
      replace SS := SS.kp k1
      replace FSS := FSS.kp k1
      replace PP := PP.kp k1
      replace FPP := FPP.kp k1
      replace hg := Lib.hid (hg.out.trans hg1)
      clear k1 hg1
      dsimp only
      refine and_keep ⟨Xx.c0, Xx.c1, Xy.c0, Xy.c1⟩ (fun hS => ?_)
      have SS_0 := SS.c0
      have SS_1 := SS.c1
      have FSS_2 := FSS.2
      refine anyN_one 10 rfl (by kernel_rfl) rfl ?_
      go_simp
      clear SS_0 SS_1 FSS_2
      replace Xx := Xx.far2 ne_SS_Xx (.int .i64 sn) (.int .i64 sd)
      replace Xy := Xy.far2 ne_SS_Xy (.int .i64 sn) (.int .i64 sd)
      replace Xz := Xz.far2 ne_SS_Xz (.int .i64 sn) (.int .i64 sd)
      replace BD := BD.far2 (B := bSS) ne_SS_BD (.int .i64 sn) (.int .i64 sd)
      replace FBD := (FBD.set ⟨bSS, 0, none⟩ (.int .i64 sn)).set ⟨bSS, 1, none⟩ (.int .i64 sd)
      replace SS := SS.set (.int .i64 sn) (.int .i64 sd)
      replace FSS := (FSS.set ⟨bSS, 0, none⟩ (.int .i64 sn)).set ⟨bSS, 1, none⟩ (.int .i64 sd)
      replace PP := PP.far2 ne_PP_SS.symm (.int .i64 sn) (.int .i64 sd)
      replace FPP := (FPP.set ⟨bSS, 0, none⟩ (.int .i64 sn)).set ⟨bSS, 1, none⟩ (.int .i64 sd)
      replace hg := Lib.hid (hg.out.set2 (B := bSS) le_SS (.int .i64 sn) (.int .i64 sd))
      generalize World.setCell _ _ _ = ws42 at *
      have PP_0 := PP.c0
      have PP_1 := PP.c1
      have FPP_2 := FPP.2
      refine anyN_one 11 rfl (by kernel_rfl) rfl ?_
      go_simp
      clear PP_0 PP_1 FPP_2
      replace Xx := Xx.far2 ne_PP_Xx (.int .i64 pn) (.int .i64 pd)
      replace Xy := Xy.far2 ne_PP_Xy (.int .i64 pn) (.int .i64 pd)
      replace Xz := Xz.far2 ne_PP_Xz (.int .i64 pn) (.int .i64 pd)
      replace BD := BD.far2 (B := bPP) ne_PP_BD (.int .i64 pn) (.int .i64 pd)
      replace FBD := (FBD.set ⟨bPP, 0, none⟩ (.int .i64 pn)).set ⟨bPP, 1, none⟩ (.int .i64 pd)
      replace SS := SS.far2 ne_PP_SS (.int .i64 pn) (.int .i64 pd)
      replace FSS := (FSS.set ⟨bPP, 0, none⟩ (.int .i64 pn)).set ⟨bPP, 1, none⟩ (.int .i64 pd)
      replace PP := PP.set (.int .i64 pn) (.int .i64 pd)
      replace FPP := (FPP.set ⟨bPP, 0, none⟩ (.int .i64 pn)).set ⟨bPP, 1, none⟩ (.int .i64 pd)
      replace hg := Lib.hid (hg.out.set2 (B := bPP) le_PP (.int .i64 pn) (.int .i64 pd))
      generalize World.setCell _ _ _ = ws43 at *
      refine anyN_done (by kernel_rfl) ?_
      clear hS
      refine NoPanic.normal (hexit _ _ _ _ _ _ _ _ _ _ _ ?_)
      exact ⟨_, _, rfl, rfl, SS, PP, Xx, Xy, Xz, zd_mk BD FBD, hg.out⟩
  · go_simp
    have ne_PP_Xx : w0.heap.size ≠ bXx := Nat.ne_of_gt Xx.lt
    have ne_PP_Xy : w0.heap.size ≠ bXy := Nat.ne_of_gt Xy.lt
    have ne_PP_Xz : w0.heap.size ≠ bXz := Nat.ne_of_gt Xz.lt
    have ne_PP_BD : w0.heap.size ≠ bb := Nat.ne_of_gt BD.2
    have le_PP : W.heap.size ≤ w0.heap.size := hg.out.kp.size
    have PP := C2.new w0 (.int .i64 0) (.int .i64 0) 25
    have FPP := Fz.new w0 #[.int .i64 0, .int .i64 0] 25
    replace Xx := Xx.alloc (.cells #[.int .i64 0, .int .i64 0] 25)
    replace Xy := Xy.alloc (.cells #[.int .i64 0, .int .i64 0] 25)
    replace Xz := Xz.alloc (.cells #[.int .i64 0, .int .i64 0] 25)
    replace BD := BD.alloc (.cells #[.int .i64 0, .int .i64 0] 25)
    replace FBD := FBD.alloc (.cells #[.int .i64 0, .int .i64 0] 25)
    replace hg := Lib.hid (hg.out.alloc (.cells #[.int .i64 0, .int .i64 0] 25))
    generalize w0.alloc (.cells #[.int .i64 0, .int .i64 0] 25) = wa44 at *
    generalize w0.heap.size = bPP at *
    refine and_keep ⟨Xx.c0, Xx.c1, Xy.c0, Xy.c1⟩ (fun hS => ?_)
    refine anyN_two 3 8 rfl rfl (by kernel_rfl) rfl rfl ?_ ?_
    · go_simp
      (with_reducible refine (HD1 _ _ (zd_mk BD FBD)).out.mono ?_)
      rintro e wv45 ⟨rfl, hg1⟩
      have k1 := hg1.kp
      replace Xx := Xx.kp k1
      replace Xy := Xy.kp k1
      replace Xz := Xz.kp k1
      replace BD := BD.kp k1
      replace FBD := FBD.kp k1
      replace PP := PP.kp k1
      replace FPP := FPP.kp k1
      replace hg := Lib.hid (hg.out.trans hg1)
      clear k1 hg1
      dsimp only
      refine and_keep ⟨Xx.c0, Xx.c1, Xy.c0, Xy.c1⟩ (fun hS => ?_)
      refine anyN_two 7 8 rfl rfl (by kernel_rfl) rfl rfl ?_ ?_
      · go_simp
        (with_reducible refine (HD2 _ _ (zd_mk BD FBD)).out.mono ?_)
        rintro e wv46 ⟨rfl, hg1⟩
        have k1 := hg1.kp
        replace Xx := Xx.kp k1
        replace Xy := Xy.kp k1
        replace Xz := Xz.kp k1
        replace BD := BD.kp k1
        replace FBD := FBD.kp k1
        replace PP := PP.kp k1
        replace FPP := FPP.kp k1
        replace hg := Lib.hid (hg.out.trans hg1)
        clear k1 hg1
        dsimp only
        refine and_keep ⟨Xx.c0, Xx.c1, Xy.c0, Xy.c1⟩ (fun hS => ?_)
        refine anyN_one 8 rfl (by kernel_rfl) rfl ?_
        go_simp
        have ne_SS_Xx : wv46.heap.size ≠ bXx := Nat.ne_of_gt Xx.lt
        have ne_SS_Xy : wv46.heap.size ≠ bXy := Nat.ne_of_gt Xy.lt
        have ne_SS_Xz : wv46.heap.size ≠ bXz := Nat.ne_of_gt Xz.lt
        have ne_SS_BD : wv46.heap.size ≠ bb := Nat.ne_of_gt BD.2
        have ne_SS_PP : wv46.heap.size ≠ bPP := Nat.ne_of_gt PP.lt
        have le_SS : W.heap.size ≤ wv46.heap.size := hg.out.kp.size
        have SS := C2.new wv46 (.int .i64 0) (.int .i64 0) 25
        have FSS := Fz.new wv46 #[.int .i64 0, .int .i64 0] 25
        replace Xx := Xx.alloc (.cells #[.int .i64 0, .int .i64 0] 25)
        replace Xy := Xy.alloc (.cells #[.int .i64 0, .int .i64 0] 25)
        replace Xz := Xz.alloc (.cells #[.int .i64 0, .int .i64 0] 25)
        replace BD := BD.alloc (.cells #[.int .i64 0, .int .i64 0] 25)
        replace FBD := FBD.alloc (.cells #[.int .i64 0, .int .i64 0] 25)
        replace PP := PP.alloc (.cells #[.int .i64 0, .int .i64 0] 25)
        replace FPP := FPP.alloc (.cells #[.int .i64 0, .int .i64 0] 25)
        replace hg := Lib.hid (hg.out.alloc (.cells #[.int .i64 0, .int .i64 0] 25))
        generalize wv46.alloc (.cells #[.int .i64 0, .int .i64 0] 25) = wa47 at *
        generalize wv46.heap.size = bSS at *
        refine and_keep ⟨Xx.c0, Xx.c1, Xy.c0, Xy.c1⟩ (fun hS => ?_)
        have SS_0 := SS.c0
        have SS_1 := SS.c1
        have FSS_2 := FSS.2
        refine anyN_one 10 rfl (by kernel_rfl) rfl ?_
        go_simp
        clear SS_0 SS_1 FSS_2
        replace Xx := Xx.far2 ne_SS_Xx (.int .i64 sn) (.int .i64 sd)
        replace Xy := Xy.far2 ne_SS_Xy (.int .i64 sn) (.int .i64 sd)
        replace Xz := Xz.far2 ne_SS_Xz (.int .i64 sn) (.int .i64 sd)
        replace BD := BD.far2 (B := bSS) ne_SS_BD (.int .i64 sn) (.int .i64 sd)
        replace FBD := (FBD.set ⟨bSS, 0, none⟩ (.int .i64 sn)).set ⟨bSS, 1, none⟩ (.int .i64 sd)
        replace PP := PP.far2 ne_SS_PP (.int .i64 sn) (.int .i64 sd)
        replace FPP := (FPP.set ⟨bSS, 0, none⟩ (.int .i64 sn)).set ⟨bSS, 1, none⟩ (.int .i64 sd)
        replace SS := SS.set (.int .i64 sn) (.int .i64 sd)
        replace FSS := (FSS.set ⟨bSS, 0, none⟩ (.int .i64 sn)).set ⟨bSS, 1, none⟩ (.int .i64 sd)
        replace hg := Lib.hid (hg.out.set2 (B := bSS) le_SS (.int .i64 sn) (.int .i64 sd))
        generalize World.setCell _ _ _ = ws48 at *
        have PP_0 := PP.c0
        have PP_1 := PP.c1
        have FPP_2 := FPP.2
        refine anyN_one 11 rfl (by kernel_rfl) rfl ?_
        go_simp
        clear PP_0 PP_1 FPP_2
        replace Xx := Xx.far2 ne_PP_Xx (.int .i64 pn) (.int .i64 pd)
        replace Xy := Xy.far2 ne_PP_Xy (.int .i64 pn) (.int .i64 pd)
        replace Xz := Xz.far2 ne_PP_Xz (.int .i64 pn) (.int .i64 pd)
        replace BD := BD.far2 (B := bPP) ne_PP_BD (.int .i64 pn) (.int .i64 pd)
        replace FBD := (FBD.set ⟨bPP, 0, none⟩ (.int .i64 pn)).set ⟨bPP, 1, none⟩ (.int .i64 pd)
        replace PP := PP.set (.int .i64 pn) (.int .i64 pd)
        replace FPP := (FPP.set ⟨bPP, 0, none⟩ (.int .i64 pn)).set ⟨bPP, 1, none⟩ (.int .i64 pd)
        replace SS := SS.far2 ne_SS_PP.symm (.int .i64 pn) (.int .i64 pd)
        replace FSS := (FSS.set ⟨bPP, 0, none⟩ (.int .i64 pn)).set ⟨bPP, 1, none⟩ (.int .i64 pd)
        replace hg := Lib.hid (hg.out.set2 (B := bPP) le_PP (.int .i64 pn) (.int .i64 pd))
        generalize World.setCell _ _ _ = ws49 at *
        refine anyN_done (by kernel_rfl) ?_
        clear hS
        refine NoPanic.normal (hexit _ _ _ _ _ _ _ _ _ _ _ ?_)
        exact ⟨_, _, rfl, rfl, SS, PP, Xx, Xy, Xz, zd_mk BD FBD, hg.out⟩
      · go_simp
        have ne_SS_Xx : wv45.heap.size ≠ bXx := Nat.ne_of_gt Xx.lt
        have ne_SS_Xy : wv45.heap.size ≠ bXy := Nat.ne_of_gt Xy.lt
        have ne_SS_Xz : wv45.heap.size ≠ bXz := Nat.ne_of_gt Xz.lt
        have ne_SS_BD : wv45.heap.size ≠ bb := Nat.ne_of_gt BD.2
        have ne_SS_PP : wv45.heap.size ≠ bPP := Nat.ne_of_gt PP.lt
        have le_SS : W.heap.size ≤ wv45.heap.size := hg.out.kp.size
        have SS := C2.new wv45 (.int .i64 0) (.int .i64 0) 25
        have FSS := Fz.new wv45 #[.int .i64 0, .int .i64 0] 25
        replace Xx := Xx.alloc (.cells #[.int .i64 0, .int .i64 0] 25)
        replace Xy := Xy.alloc (.cells #[.int .i64 0, .int .i64 0] 25)
        replace Xz := Xz.alloc (.cells #[.int .i64 0, .int .i64 0] 25)
        replace BD := BD.alloc (.cells #[.int .i64 0, .int .i64 0] 25)
        replace FBD := FBD.alloc (.cells #[.int .i64 0, .int .i64 0] 25)
        replace PP := PP.alloc (.cells #[.int .i64 0, .int .i64 0] 25)
        replace FPP := FPP.alloc (.cells #[.int .i64 0, .int .i64 0] 25)
        replace hg := Lib.hid (hg.out.alloc (.cells #[.int .i64 0, .int .i64 0] 25))
        generalize wv45.alloc (.cells #[.int .i64 0, .int .i64 0] 25) = wa50 at *
        generalize wv45.heap.size = bSS at *
        refine and_keep ⟨Xx.c0, Xx.c1, Xy.c0, Xy.c1⟩ (fun hS => ?_)
        refine anyN_one 7 rfl (by kernel_rfl) rfl ?_
        go_simp
        (with_reducible refine (HD2 _ _ (zd_mk BD FBD)).out.mono ?_)
        rintro e wv51 ⟨rfl, hg1⟩
        have k1 := hg1.kp
        replace Xx := Xx.kp k1
        replace Xy := Xy.kp k1
        replace Xz := Xz.kp k1
        replace BD := BD.kp k1
        replace FBD := FBD.kp k1
        replace PP := PP.kp k1
        replace FPP := FPP.kp k1
        replace SS := SS.kp k1
        replace FSS := FSS.kp k1
        replace hg := Lib.hid (hg.out.trans hg1)
        clear k1 hg1
        dsimp only
        refine and_keep ⟨Xx.c0, Xx.c1, Xy.c0, Xy.c1⟩ (fun hS => ?_)
        have SS_0 := SS.c0
        have SS_1 := SS.c1
        have FSS_2 := FSS.2
        refine anyN_one 10 rfl (by kernel_rfl) rfl ?_
        go_simp
        clear SS_0 SS_1 FSS_2
        replace Xx := Xx.far2 ne_SS_Xx (.int .i64 sn) (.int .i64 sd)
        replace Xy := Xy.far2 ne_SS_Xy (.int .i64 sn) (.int .i64 sd)
        replace Xz := Xz.far2 ne_SS_Xz (.int .i64 sn) (.int .i64 sd)
        replace BD := BD.far2 (B := bSS) ne_SS_BD (.int .i64 sn) (.int .i64 sd)
        replace FBD := (FBD.set ⟨bSS, 0, none⟩ (.int .i64 sn)).set ⟨bSS, 1, none⟩ (.int .i64 sd)
        replace PP := PP.far2 ne_SS_PP (.int .i64 sn) (.int .i64 sd)
        replace FPP := (FPP.set ⟨bSS, 0, none⟩ (.int .i64 sn)).set ⟨bSS, 1, none⟩ (.int .i64 sd)
        replace SS := SS.set (.int .i64 sn) (.int .i64 sd)
        replace FSS := (FSS.set ⟨bSS, 0, none⟩ (.int .i64 sn)).set ⟨bSS, 1, none⟩ (.int .i64 sd)
        replace hg := Lib.hid (hg.out.set2 (B := bSS) le_SS (.int .i64 sn) (.int .i64 sd))
        generalize World.setCell _ _ _ = ws52 at *
        have PP_0 := PP.c0
        have PP_1 := PP.c1
        have FPP_2 := FPP.2
        refine anyN_one 11 rfl (by kernel_rfl) rfl ?_
        go_simp
        clear PP_0 PP_1 FPP_2
        replace Xx := Xx.far2 ne_PP_Xx (.int .i64 pn) (.int .i64 pd)
        replace Xy := Xy.far2 ne_PP_Xy (.int .i64 pn) (.int .i64 pd)
        replace Xz := Xz.far2 ne_PP_Xz (.int .i64 pn) (.int .i64 pd)
        replace BD := BD.far2 (B := bPP) ne_PP_BD (.int .i64 pn) (.int .i64 pd)
        replace FBD := (FBD.set ⟨bPP, 0, none⟩ (.int .i64 pn)).set ⟨bPP, 1, none⟩ (.int .i64 pd)
        replace PP := PP.set (.int .i64 pn) (.int .i64 pd)
        replace FPP := (FPP.set ⟨bPP, 0, none⟩ (.int .i64 pn)).set ⟨bPP, 1, none⟩ (.int .i64 pd)
        replace SS := SS.far2 ne_SS_PP.symm (.int .i64 pn) (.int .i64 pd)
        replace FSS := (FSS.set ⟨bPP, 0, none⟩ (.int .i64 pn)).set ⟨bPP, 1, none⟩ (.int .i64 pd)
        replace hg := Lib.hid (hg.out.set2 (B := bPP) le_PP (.int .i64 pn) (.int .i64 pd))
        generalize World.setCell _ _ _ = ws53 at *
        refine anyN_done (by kernel_rfl) ?_
        clear hS
        refine NoPanic.normal (hexit _ _ _ _ _ _ _ _ _ _ _ ?_)
        exact ⟨_, _, rfl, rfl, SS, PP, Xx, Xy, Xz, zd_mk BD FBD, hg.out⟩
    · go_simp
      have ne_SS_Xx : wa44.heap.size ≠ bXx := Nat.ne_of_gt Xx.lt
      have ne_SS_Xy : wa44.heap.size ≠ bXy := Nat.ne_of_gt Xy.lt
      have ne_SS_Xz : wa44.heap.size ≠ bXz := Nat.ne_of_gt Xz.lt
      have ne_SS_BD : wa44.heap.size ≠ bb := Nat.ne_of_gt BD.2
      have ne_SS_PP : wa44.heap.size ≠ bPP := Nat.ne_of_gt PP.lt
      have le_SS : W.heap.size ≤ wa44.heap.size := hg.out.kp.size
      have SS := C2.new wa44 (.int .i64 0) (.int .i64 0) 25
      have FSS := Fz.new wa44 #[.int .i64 0, .int .i64 0] 25
      replace Xx := Xx.alloc (.cells #[.int .i64 0, .int .i64 0] 25)
      replace Xy := Xy.alloc (.cells #[.int .i64 0, .int .i64 0] 25)
      replace Xz := Xz.alloc (.cells #[.int .i64 0, .int .i64 0] 25)
      replace BD := BD.alloc (.cells #[.int .i64 0, .int .i64 0] 25)
      replace FBD := FBD.alloc (.cells #[.int .i64 0, .int .i64 0] 25)
      replace PP := PP.alloc (.cells #[.int .i64 0, .int .i64 0] 25)
      replace FPP := FPP.alloc (.cells #[.int .i64 0, .int .i64 0] 25)
      replace hg := Lib.hid (hg.out.alloc (.cells #[.int .i64 0, .int .i64 0] 25))
      generalize wa44.alloc (.cells #[.int .i64 0, .int .i64 0] 25) = wa54 at *
      generalize wa44.heap.size = bSS at *
      refine and_keep ⟨Xx.c0, Xx.c1, Xy.c0, Xy.c1⟩ (fun hS => ?_)
      refine anyN_one 3 rfl (by kernel_rfl) rfl ?_
      go_simp
      (with_reducible refine (HD1 _ _ (zd_mk BD FBD)).out.mono ?_)
      rintro e wv55 ⟨rfl, hg1⟩
      have k1 := hg1.kp
      replace Xx := Xx.kp k1
      replace Xy := Xy.kp k1
      replace Xz := Xz.kp k1
      replace BD := BD.kp k1
      replace FBD := FBD.kp k1
      replace PP := PP.kp k1
      replace FPP := FPP.kp k1
      replace SS := SS.kp k1
      replace FSS := FSS.kp k1
      replace hg := Lib.hid (hg.out.trans hg1)
      clear k1 hg1
      dsimp only
      refine and_keep ⟨Xx.c0, Xx.c1, Xy.c0, Xy.c1⟩ (fun hS => ?_)
      refine anyN_one 7 rfl (by kernel_rfl) rfl ?_
      go_simp
      (with_reducible refine (HD2 _ _ (zd_mk BD FBD)).out.mono ?_)
      rintro e wv56 ⟨rfl, hg1⟩
      have k1 := hg1.kp
      replace Xx := Xx.kp k1
      replace Xy := Xy.kp k1
      replace Xz := Xz.kp k1
      replace BD := BD.kp k1
      replace FBD := FBD.kp k1
      replace PP := PP.kp k1
      replace FPP := FPP.kp k1
      replace SS := SS.kp k1
      replace FSS := FSS.kp k1
      replace hg := Lib.hid (hg.out.trans hg1)
      clear k1 hg1
      dsimp only
      refine and_keep ⟨Xx.c0, Xx.c1, Xy.c0, Xy.c1⟩ (fun hS => ?_)
      have SS_0 := SS.c0
      have SS_1 := SS.c1
      have FSS_2 := FSS.2
      refine anyN_one 10 rfl (by kernel_rfl) rfl ?_
      go_simp
      clear SS_0 SS_1 FSS_2
      replace Xx := Xx.far2 ne_SS_Xx (.int .i64 sn) (.int .i64 sd)
      replace Xy := Xy.far2 ne_SS_Xy (.int .i64 sn) (.int .i64 sd)
      replace Xz := Xz.far2 ne_SS_Xz (.int .i64 sn) (.int .i64 sd)
      replace BD := BD.far2 (B := bSS) ne_SS_BD (.int .i64 sn) (.int .i64 sd)
      replace FBD := (FBD.set ⟨bSS, 0, none⟩ (.int .i64 sn)).set ⟨bSS, 1, none⟩ (.int .i64 sd)
      replace PP := PP.far2 ne_SS_PP (.int .i64 sn) (.int .i64 sd)
      replace FPP := (FPP.set ⟨bSS, 0, none⟩ (.int .i64 sn)).set ⟨bSS, 1, none⟩ (.int .i64 sd)
      replace SS := SS.set (.int .i64 sn) (.int .i64 sd)
      replace FSS := (FSS.set ⟨bSS, 0, none⟩ (.int .i64 sn)).set ⟨bSS, 1, none⟩ (.int .i64 sd)
      replace hg := Lib.hid (hg.out.set2 (B := bSS) le_SS (.int .i64 sn) (.int .i64 sd))
      generalize World.setCell _ _ _ = ws57 at *
      have PP_0 := PP.c0
      have PP_1 := PP.c1
      have FPP_2 := FPP.2
      refine anyN_one 11 rfl (by kernel_rfl) rfl ?_
      go_simp
      clear PP_0 PP_1 FPP_2
      replace Xx := Xx.far2 ne_PP_Xx (.int .i64 pn) (.int .i64 pd)
      replace Xy := Xy.far2 ne_PP_Xy (.int .i64 pn) (.int .i64 pd)
      replace Xz := Xz.far2 ne_PP_Xz (.int .i64 pn) (.int .i64 pd)
      replace BD := BD.far2 (B := bPP) ne_PP_BD (.int .i64 pn) (.int .i64 pd)
      replace FBD := (FBD.set ⟨bPP, 0, none⟩ (.int .i64 pn)).set ⟨bPP, 1, none⟩ (.int .i64 pd)
      replace PP := PP.set (.int .i64 pn) (.int .i64 pd)
      replace FPP := (FPP.set ⟨bPP, 0, none⟩ (.int .i64 pn)).set ⟨bPP, 1, none⟩ (.int .i64 pd)
      replace SS := SS.far2 ne_SS_PP.symm (.int .i64 pn) (.int .i64 pd)
      replace FSS := (FSS.set ⟨bPP, 0, none⟩ (.int .i64 pn)).set ⟨bPP, 1, none⟩ (.int .i64 pd)
      replace hg := Lib.hid (hg.out.set2 (B := bPP) le_PP (.int .i64 pn) (.int .i64 pd))
      generalize World.setCell _ _ _ = ws58 at *
      refine anyN_done (by kernel_rfl) ?_
      clear hS
      refine NoPanic.normal (hexit _ _ _ _ _ _ _ _ _ _ _ ?_)
      exact ⟨_, _, rfl, rfl, SS, PP, Xx, Xy, Xz, zd_mk BD FBD, hg.out⟩

set_option maxRecDepth 100000 in
set_option maxHeartbeats 4000000 in
theorem laws_r9p {v0 v1 v2 v3 v4 v5 v6 v13 v17 v18 v19 v20 v21 v22 v23 v24 v25 v26 v27 v28 v29 v30 v31 v32 v33 v34 v35 v36 v37 v38 v39 v40 v41 v42 v43 v44 v45 v46 v47 v48 v49 v50 v51 v52 v53 v54 v55 v56 v57 v58 v59 v60 v61 v62 v63 v64 v65 v66 v67 v68 v69 v70 v71 v72 v73 v74 v75 v76 v77 v78 v79 v80 v81 v82 v83 v84 v85 v86 v87 v88 v89 v90 v91 v92 v93 v94 v95 v96 v97 v98 v99 v100 v101 v102 v103 v104 v105 v106 v107 v108 v109 v110 v111 v112 v113 v114 v115 v116 v117 v118 v119 v120 v121 v122 v123 v124 v125 v126 v127 v128 v129 v130 v131 v132 v133 v134 v135 v136 v137 v138 v139 v140 v141 v142 v143 v144 v145 v146 v147 v148 v149 : Value} {xn xd yn yd zn zd sn sd pn pd : Int} {bXx bXy bXz bS bP bb : Nat} {W w0 : World} (d3 : (plN yn yd xn xd = sn ∧ plD yn yd xn xd = sd ∧ plE yn yd xn xd = 0)) (d4 : (tmN yn yd xn xd = pn ∧ tmD yn yd xn xd = pd ∧ tmE yn yd xn xd = 0)) (d5 : (leN sn sd yn yd = xn ∧ leD sn sd yn yd = xd ∧ leE sn sd yn yd = 0)) (d6 : ovN pn pd yn yd = xn ∧ ovD pn pd yn yd = xd ∧ ovE pn pd yn yd = 0) (hy : 0 < yn) (Xx : C2 w0 bXx (.int .i64 xn) (.int .i64 xd)) (Xy : C2 w0 bXy (.int .i64 yn) (.int .i64 yd)) (Xz : C2 w0 bXz (.int .i64 zn) (.int .i64 zd)) (SS : C2 w0 bS (.int .i64 sn) (.int .i64 sd)) (PP : C2 w0 bP (.int .i64 pn) (.int .i64 pd)) (BZ : Zd w0 bb) (hg0 : GrewS W w0) {Q : Exit → Act → World → Prop}
    (hexit : ∀ (u58 u59 u60 u61 u62 u63 u64 u65 u66 u67 u68 u69 u70 u71 u72 u73 u74 u75 u76 u77 u78 u79 u80 u81 u82 u83 u84 u85 u86 u87 u88 u89 u90 u91 u92 u93 u94 u95 u96 u97 u98 u99 u100 u101 u102 u103 : Value) (w' : World), (C2 w' bS (.int .i64 sn) (.int .i64 sd) ∧ C2 w' bP (.int .i64 pn) (.int .i64 pd) ∧ C2 w' bXx (.int .i64 xn) (.int .i64 xd) ∧ C2 w' bXy (.int .i64 yn) (.int .i64 yd) ∧ C2 w' bXz (.int .i64 zn) (.int .i64 zd) ∧ Zd w' bb ∧ GrewS W w') → Q .normal ⟨#[v0, v1, v2, v3, v4, v5, v6, .pointer (some ⟨bXx, 0, none⟩), .bool true, .pointer (some ⟨bXy, 0, none⟩), .bool true, .pointer (some ⟨bXz, 0, none⟩), .bool true, v13, .func (.func 14) #[] #[.pointer (some ⟨bb, 0, none⟩)], .pointer (some ⟨bS, 0, none⟩), .pointer (some ⟨bP, 0, none⟩), v17, v18, v19, v20, v21, v22, v23, v24, v25, v26, v27, v28, v29, v30, v31, v32, v33, v34, v35, v36, v37, v38, v39, v40, v41, v42, v43, v44, v45, v46, v47, v48, v49, v50, v51, v52, v53, v54, v55, v56, v57, u58, u59, u60, u61, u62, u63, u64, u65, u66, u67, u68, u69, u70, u71, u72, u73, u74, u75, u76, u77, u78, u79, u80, u81, u82, u83, u84, u85, u86, u87, u88, u89, u90, u91, u92, u93, u94, u95, u96, u97, u98, u99, u100, u101, u102, u103, .bool false, v105, v106, v107, v108, v109, v110, v111, v112, v113, v114, v115, v116, v117, v118, v119, v120, v121, v122, v123, v124, v125, v126, v127, v128, v129, v130, v131, v132, v133, v134, v135, v136, v137, v138, v139, v140, v141, v142, v143, v144, v145, v146, v147, v148, v149], []⟩ w') :
    Code.wp Try.prog code3_9 Q ⟨#[v0, v1, v2, v3, v4, v5, v6, .pointer (some ⟨bXx, 0, none⟩), .bool true, .pointer (some ⟨bXy, 0, none⟩), .bool true, .pointer (some ⟨bXz, 0, none⟩), .bool true, v13, .func (.func 14) #[] #[.pointer (some ⟨bb, 0, none⟩)], .pointer (some ⟨bS, 0, none⟩), .pointer (some ⟨bP, 0, none⟩), v17, v18, v19, v20, v21, v22, v23, v24, v25, v26, v27, v28, v29, v30, v31, v32, v33, v34, v35, v36, v37, v38, v39, v40, v41, v42, v43, v44, v45, v46, v47, v48, v49, v50, v51, v52, v53, v54, v55, v56, v57, v58, v59, v60, v61, v62, v63, v64, v65, v66, v67, v68, v69, v70, v71, v72, v73, v74, v75, v76, v77, v78, v79, v80, v81, v82, v83, v84, v85, v86, v87, v88, v89, v90, v91, v92, v93, v94, v95, v96, v97, v98, v99, v100, v101, v102, v103, v104, v105, v106, v107, v108, v109, v110, v111, v112, v113, v114, v115, v116, v117, v118, v119, v120, v121, v122, v123, v124, v125, v126, v127, v128, v129, v130, v131, v132, v133, v134, v135, v136, v137, v138, v139, v140, v141, v142, v143, v144, v145, v146, v147, v148, v149], []⟩ w0 := by
  conv => arg 2; whnf
  refine wp_region_noPanic ?_
  have HD3 := fun W bb hz => Lib.hid (do15 (a := yn) (b := yd) (c := xn) (d := xd) W bb hz d3)
  clear d3
  have HD4 := fun W bb hz => Lib.hid (do16 (a := yn) (b := yd) (c := xn) (d := xd) W bb hz d4)
  clear d4
  have HD5 := fun W bb hz => Lib.hid (do17 (a := sn) (b := sd) (c := yn) (d := yd) W bb hz d5)
  clear d5
  have HD6 := fun W bb hz => Lib.hid (do18 (a := pn) (b := pd) (c := yn) (d := yd) W bb hz d6)
  clear d6
  have HB := Lib.hid (show ∀ w', GrewS w0 w' → (w'.cell? ⟨bXx, 0, none⟩ = some (.int .i64 xn) ∧ w'.cell? ⟨bXx, 1, none⟩ = some (.int .i64 xd) ∧ w'.cell? ⟨bXy, 0, none⟩ = some (.int .i64 yn) ∧ w'.cell? ⟨bXy, 1, none⟩ = some (.int .i64 yd) ∧ w'.cell? ⟨bXz, 0, none⟩ = some (.int .i64 zn) ∧ w'.cell? ⟨bXz, 1, none⟩ = some (.int .i64 zd) ∧ w'.cell? ⟨bS, 0, none⟩ = some (.int .i64 sn) ∧ w'.cell? ⟨bS, 1, none⟩ = some (.int .i64 sd) ∧ w'.cell? ⟨bP, 0, none⟩ = some (.int .i64 pn) ∧ w'.cell? ⟨bP, 1, none⟩ = some (.int .i64 pd)) from fun w' g => ⟨(Xx.kp g.kp).c0, (Xx.kp g.kp).c1, (Xy.kp g.kp).c0, (Xy.kp g.kp).c1, (Xz.kp g.kp).c0, (Xz.kp g.kp).c1, (SS.kp g.kp).c0, (SS.kp g.kp).c1, (PP.kp g.kp).c0, (PP.kp g.kp).c1⟩)
  have HZD := Lib.hid (show ∀ w', GrewS w0 w' → Zd w' bb from fun w' g => BZ.kp g.kp)
  have h0 := Lib.hid (GrewS.refl w0)
  go_region_held3 (fun w' => w'.cell? ⟨bXx, 0, none⟩ = some (.int .i64 xn) ∧ w'.cell? ⟨bXx, 1, none⟩ = some (.int .i64 xd) ∧ w'.cell? ⟨bXy, 0, none⟩ = some (.int .i64 yn) ∧ w'.cell? ⟨bXy, 1, none⟩ = some (.int .i64 yd) ∧ w'.cell? ⟨bXz, 0, none⟩ = some (.int .i64 zn) ∧ w'.cell? ⟨bXz, 1, none⟩ = some (.int .i64 zd) ∧ w'.cell? ⟨bS, 0, none⟩ = some (.int .i64 sn) ∧ w'.cell? ⟨bS, 1, none⟩ = some (.int .i64 sd) ∧ w'.cell? ⟨bP, 0, none⟩ = some (.int .i64 pn) ∧ w'.cell? ⟨bP, 1, none⟩ = some (.int .i64 pd))
    (first | exact HB.out _ h0.out | exact HB.out _ h0.out.drew)
    (first | (go_at_call 14; (with_reducible refine (HD3 _ _ (HZD.out _ (by first | exact h0.out | exact h0.out.drew))).out.mono ?_); rintro e wx ⟨rfl, hg1⟩; replace h0 := Lib.hid (GrewS.trans (by first | exact h0.out | exact h0.out.drew) hg1); clear hg1) | (go_at_call 14; (with_reducible refine (HD4 _ _ (HZD.out _ (by first | exact h0.out | exact h0.out.drew))).out.mono ?_); rintro e wx ⟨rfl, hg1⟩; replace h0 := Lib.hid (GrewS.trans (by first | exact h0.out | exact h0.out.drew) hg1); clear hg1) | (go_at_call 14; (with_reducible refine (HD5 _ _ (HZD.out _ (by first | exact h0.out | exact h0.out.drew))).out.mono ?_); rintro e wx ⟨rfl, hg1⟩; replace h0 := Lib.hid (GrewS.trans (by first | exact h0.out | exact h0.out.drew) hg1); clear hg1) | (go_at_call 14; (with_reducible refine (HD6 _ _ (HZD.out _ (by first | exact h0.out | exact h0.out.drew))).out.mono ?_); rintro e wx ⟨rfl, hg1⟩; replace h0 := Lib.hid (GrewS.trans (by first | exact h0.out | exact h0.out.drew) hg1); clear hg1))
  have k1 := h0.out.kp
  refine NoPanic.normal (hexit _ _ _ _ _ _ _ _ _ _ _ _ _ _ _ _ _ _ _ _ _ _ _ _ _ _ _ _ _ _ _ _ _ _ _ _ _ _ _ _ _ _ _ _ _ _ _ ?_)
  exact ⟨SS.kp k1, PP.kp k1, Xx.kp k1, Xy.kp k1, Xz.kp k1, BZ.kp k1, hg0.trans h0.out⟩

set_option maxRecDepth 100000 in
set_option maxHeartbeats 4000000 in
theorem laws_r9z {v0 v1 v2 v3 v4 v5 v6 v13 v17 v18 v19 v20 v21 v22 v23 v24 v25 v26 v27 v28 v29 v30 v31 v32 v33 v34 v35 v36 v37 v38 v39 v40 v41 v42 v43 v44 v45 v46 v47 v48 v49 v50 v51 v52 v53 v54 v55 v56 v57 v58 v59 v60 v61 v62 v63 v64 v65 v66 v67 v68 v69 v70 v71 v72 v73 v74 v75 v76 v77 v78 v79 v80 v81 v82 v83 v84 v85 v86 v87 v88 v89 v90 v91 v92 v93 v94 v95 v96 v97 v98 v99 v100 v101 v102 v103 v104 v105 v106 v107 v108 v109 v110 v111 v112 v113 v114 v115 v116 v117 v118 v119 v120 v121 v122 v123 v124 v125 v126 v127 v128 v129 v130 v131 v132 v133 v134 v135 v136 v137 v138 v139 v140 v141 v142 v143 v144 v145 v146 v147 v148 v149 : Value} {xn xd yn yd zn zd sn sd pn pd : Int} {bXx bXy bXz bS bP bb : Nat} {W w0 : World} (d3 : (plN yn yd xn xd = sn ∧ plD yn yd xn xd = sd ∧ plE yn yd xn xd = 0)) (d4 : (tmN yn yd xn xd = pn ∧ tmD yn yd xn xd = pd ∧ tmE yn yd xn xd = 0)) (d5 : (leN sn sd yn yd = xn ∧ leD sn sd yn yd = xd ∧ leE sn sd yn yd = 0)) (hy : yn = 0) (Xx : C2 w0 bXx (.int .i64 xn) (.int .i64 xd)) (Xy : C2 w0 bXy (.int .i64 yn) (.int .i64 yd)) (Xz : C2 w0 bXz (.int .i64 zn) (.int .i64 zd)) (SS : C2 w0 bS (.int .i64 sn) (.int .i64 sd)) (PP : C2 w0 bP (.int .i64 pn) (.int .i64 pd)) (BZ : Zd w0 bb) (hg0 : GrewS W w0) {Q : Exit → Act → World → Prop}
    (hexit : ∀ (u58 u59 u60 u61 u62 u63 u64 u65 u66 u67 u68 u69 u70 u71 u72 u73 u74 u75 u76 u77 u78 u79 u80 u81 u82 u83 u84 u85 u86 u87 u88 u89 u90 u91 u92 u93 u94 u95 u96 u97 u98 u99 u100 u101 u102 u103 : Value) (w' : World), (C2 w' bS (.int .i64 sn) (.int .i64 sd) ∧ C2 w' bP (.int .i64 pn) (.int .i64 pd) ∧ C2 w' bXx (.int .i64 xn) (.int .i64 xd) ∧ C2 w' bXy (.int .i64 yn) (.int .i64 yd) ∧ C2 w' bXz (.int .i64 zn) (.int .i64 zd) ∧ Zd w' bb ∧ GrewS W w') → Q .normal ⟨#[v0, v1, v2, v3, v4, v5, v6, .pointer (some ⟨bXx, 0, none⟩), .bool true, .pointer (some ⟨bXy, 0, none⟩), .bool true, .pointer (some ⟨bXz, 0, none⟩), .bool true, v13, .func (.func 14) #[] #[.pointer (some ⟨bb, 0, none⟩)], .pointer (some ⟨bS, 0, none⟩), .pointer (some ⟨bP, 0, none⟩), v17, v18, v19, v20, v21, v22, v23, v24, v25, v26, v27, v28, v29, v30, v31, v32, v33, v34, v35, v36, v37, v38, v39, v40, v41, v42, v43, v44, v45, v46, v47, v48, v49, v50, v51, v52, v53, v54, v55, v56, v57, u58, u59, u60, u61, u62, u63, u64, u65, u66, u67, u68, u69, u70, u71, u72, u73, u74, u75, u76, u77, u78, u79, u80, u81, u82, u83, u84, u85, u86, u87, u88, u89, u90, u91, u92, u93, u94, u95, u96, u97, u98, u99, u100, u101, u102, u103, .bool false, v105, v106, v107, v108, v109, v110, v111, v112, v113, v114, v115, v116, v117, v118, v119, v120, v121, v122, v123, v124, v125, v126, v127, v128, v129, v130, v131, v132, v133, v134, v135, v136, v137, v138, v139, v140, v141, v142, v143, v144, v145, v146, v147, v148, v149], []⟩ w') :
    Code.wp Try.prog code3_9 Q ⟨#[v0, v1, v2, v3, v4, v5, v6, .pointer (some ⟨bXx, 0, none⟩), .bool true, .pointer (some ⟨bXy, 0, none⟩), .bool true, .pointer (some ⟨bXz, 0, none⟩), .bool true, v13, .func (.func 14) #[] #[.pointer (some ⟨bb, 0, none⟩)], .pointer (some ⟨bS, 0, none⟩), .pointer (some ⟨bP, 0, none⟩), v17, v18, v19, v20, v21, v22, v23, v24, v25, v26, v27, v28, v29, v30, v31, v32, v33, v34, v35, v36, v37, v38, v39, v40, v41, v42, v43, v44, v45, v46, v47, v48, v49, v50, v51, v52, v53, v54, v55, v56, v57, v58, v59, v60, v61, v62, v63, v64, v65, v66, v67, v68, v69, v70, v71, v72, v73, v74, v75, v76, v77, v78, v79, v80, v81, v82, v83, v84, v85, v86, v87, v88, v89, v90, v91, v92, v93, v94, v95, v96, v97, v98, v99, v100, v101, v102, v103, v104, v105, v106, v107, v108, v109, v110, v111, v112, v113, v114, v115, v116, v117, v118, v119, v120, v121, v122, v123, v124, v125, v126, v127, v128, v129, v130, v131, v132, v133, v134, v135, v136, v137, v138, v139, v140, v141, v142, v143, v144, v145, v146, v147, v148, v149], []⟩ w0 := by
  conv => arg 2; whnf
  refine wp_region_noPanic ?_
  have HD3 := fun W bb hz => Lib.hid (do15 (a := yn) (b := yd) (c := xn) (d := xd) W bb hz d3)
  clear d3
  have HD4 := fun W bb hz => Lib.hid (do16 (a := yn) (b := yd) (c := xn) (d := xd) W bb hz d4)
  clear d4
  have HD5 := fun W bb hz => Lib.hid (do17 (a := sn) (b := sd) (c := yn) (d := yd) W bb hz d5)
  clear d5
  subst hy
  have HB := Lib.hid (show ∀ w', GrewS w0 w' → (w'.cell? ⟨bXx, 0, none⟩ = some (.int .i64 xn) ∧ w'.cell? ⟨bXx, 1, none⟩ = some (.int .i64 xd) ∧ w'.cell? ⟨bXy, 0, none⟩ = some (.int .i64 0) ∧ w'.cell? ⟨bXy, 1, none⟩ = some (.int .i64 yd) ∧ w'.cell? ⟨bXz, 0, none⟩ = some (.int .i64 zn) ∧ w'.cell? ⟨bXz, 1, none⟩ = some (.int .i64 zd) ∧ w'.cell? ⟨bS, 0, none⟩ = some (.int .i64 sn) ∧ w'.cell? ⟨bS, 1, none⟩ = some (.int .i64 sd) ∧ w'.cell? ⟨bP, 0, none⟩ = some (.int .i64 pn) ∧ w'.cell? ⟨bP, 1, none⟩ = some (.int .i64 pd)) from fun w' g => ⟨(Xx.kp g.kp).c0, (Xx.kp g.kp).c1, (Xy.kp g.kp).c0, (Xy.kp g.kp).c1, (Xz.kp g.kp).c0, (Xz.kp g.kp).c1, (SS.kp g.kp).c0, (SS.kp g.kp).c1, (PP.kp g.kp).c0, (PP.kp g.kp).c1⟩)
  have HZD := Lib.hid (show ∀ w', GrewS w0 w' → Zd w' bb from fun w' g => BZ.kp g.kp)
  have h0 := Lib.hid (GrewS.refl w0)
  replace h0 := Lib.hid h0.out.drew
  refine wp_region_held_drew (S := fun w' => w'.cell? ⟨bXx, 0, none⟩ = some (.int .i64 xn) ∧ w'.cell? ⟨bXx, 1, none⟩ = some (.int .i64 xd) ∧ w'.cell? ⟨bXy, 0, none⟩ = some (.int .i64 0) ∧ w'.cell? ⟨bXy, 1, none⟩ = some (.int .i64 yd) ∧ w'.cell? ⟨bXz, 0, none⟩ = some (.int .i64 zn) ∧ w'.cell? ⟨bXz, 1, none⟩ = some (.int .i64 zd) ∧ w'.cell? ⟨bS, 0, none⟩ = some (.int .i64 sn) ∧ w'.cell? ⟨bS, 1, none⟩ = some (.int .i64 sd) ∧ w'.cell? ⟨bP, 0, none⟩ = some (.int .i64 pn) ∧ w'.cell? ⟨bP, 1, none⟩ = some (.int .i64 pd)) (by kernel_rfl) (HB.out _ h0.out) (fun hHeld => ?_)
  refine heldTake 0 (v := ?_) rfl (by kernel_rfl) (by kernel_rfl) (by kernel_rfl) (fun _ _ _ h => h) (Or.inl ⟨by rfl, ?_⟩) (by assumption) ?_
  rotate_left
  · intro w hSw
    obtain ⟨_, _, _, _, _, _, _, _, _, _⟩ := hSw
    go_simp
    try with_reducible rfl
  simp only [Act.put, List.setIfInBounds_toArray, List.set_cons_zero, List.set_cons_succ]
  refine heldTake 1 (v := ?_) rfl (by kernel_rfl) (by kernel_rfl) (by kernel_rfl) (fun _ _ _ h => h) (Or.inl ⟨by rfl, ?_⟩) (by assumption) ?_
  rotate_left
  · intro w hSw
    obtain ⟨_, _, _, _, _, _, _, _, _, _⟩ := hSw
    go_simp
    try with_reducible rfl
  simp only [Act.put, List.setIfInBounds_toArray, List.set_cons_zero, List.set_cons_succ]
  refine heldTake 2 (v := ?_) rfl (by kernel_rfl) (by kernel_rfl) (by kernel_rfl) (fun _ _ _ h => h) (Or.inl ⟨by rfl, ?_⟩) (by assumption) ?_
  rotate_left
  · intro w hSw
    obtain ⟨_, _, _, _, _, _, _, _, _, _⟩ := hSw
    go_simp
    try with_reducible rfl
  simp only [Act.put, List.setIfInBounds_toArray, List.set_cons_zero, List.set_cons_succ]
  refine heldTake 3 (v := ?_) rfl (by kernel_rfl) (by kernel_rfl) (by kernel_rfl) (fun _ _ _ h => h) (Or.inl ⟨by rfl, ?_⟩) (by assumption) ?_
  rotate_left
  · intro w hSw
    obtain ⟨_, _, _, _, _, _, _, _, _, _⟩ := hSw
    go_simp
    try with_reducible rfl
  simp only [Act.put, List.setIfInBounds_toArray, List.set_cons_zero, List.set_cons_succ]
  refine heldTake 4 (v := ?_) rfl (by kernel_rfl) (by kernel_rfl) (by kernel_rfl) (fun _ _ _ h => h) (Or.inl ⟨by rfl, ?_⟩) (by assumption) ?_
  rotate_left
  · intro w hSw
    obtain ⟨_, _, _, _, _, _, _, _, _, _⟩ := hSw
    go_simp
    try with_reducible rfl
  simp only [Act.put, List.setIfInBounds_toArray, List.set_cons_zero, List.set_cons_succ]
  refine heldTake 5 (v := ?_) rfl (by kernel_rfl) (by kernel_rfl) (by kernel_rfl) (fun _ _ _ h => h) (Or.inl ⟨by rfl, ?_⟩) (by assumption) ?_
  rotate_left
  · intro w hSw
    obtain ⟨_, _, _, _, _, _, _, _, _, _⟩ := hSw
    go_simp
    try with_reducible rfl
  simp only [Act.put, List.setIfInBounds_toArray, List.set_cons_zero, List.set_cons_succ]
  refine heldTake 6 (v := ?_) rfl (by kernel_rfl) (by kernel_rfl) (by kernel_rfl) (fun _ _ _ h => h) (Or.inl ⟨by rfl, ?_⟩) (by assumption) ?_
  rotate_left
  · intro w hSw
    obtain ⟨_, _, _, _, _, _, _, _, _, _⟩ := hSw
    go_simp
    try with_reducible rfl
  simp only [Act.put, List.setIfInBounds_toArray, List.set_cons_zero, List.set_cons_succ]
  refine heldTake 7 (v := ?_) rfl (by kernel_rfl) (by kernel_rfl) (by kernel_rfl) (fun _ _ _ h => h) (Or.inl ⟨by rfl, ?_⟩) (by assumption) ?_
  rotate_left
  · intro w hSw
    obtain ⟨_, _, _, _, _, _, _, _, _, _⟩ := hSw
    go_simp
    try with_reducible rfl
  simp only [Act.put, List.setIfInBounds_toArray, List.set_cons_zero, List.set_cons_succ]
  refine heldTake 8 (v := ?_) rfl (by kernel_rfl) (by kernel_rfl) (by kernel_rfl) (fun _ _ _ h => h) (Or.inl ⟨by rfl, ?_⟩) (by assumption) ?_
  rotate_left
  · intro w hSw
    obtain ⟨_, _, _, _, _, _, _, _, _, _⟩ := hSw
    go_simp
    try with_reducible rfl
  simp only [Act.put, List.setIfInBounds_toArray, List.set_cons_zero, List.set_cons_succ]
  refine heldTake 9 (v := ?_) rfl (by kernel_rfl) (by kernel_rfl) (by kernel_rfl) (fun _ _ _ h => h) (Or.inl ⟨by rfl, ?_⟩) (by assumption) ?_
  rotate_left
  · intro w hSw
    obtain ⟨_, _, _, _, _, _, _, _, _, _⟩ := hSw
    go_simp
    try with_reducible rfl
  simp only [Act.put, List.setIfInBounds_toArray, List.set_cons_zero, List.set_cons_succ]
  refine heldTake 10 (v := ?_) rfl (by kernel_rfl) (by kernel_rfl) (by kernel_rfl) (fun _ _ _ h => h) (Or.inl ⟨by rfl, ?_⟩) (by assumption) ?_
  rotate_left
  · intro w hSw
    obtain ⟨_, _, _, _, _, _, _, _, _, _⟩ := hSw
    go_simp
    try with_reducible rfl
  simp only [Act.put, List.setIfInBounds_toArray, List.set_cons_zero, List.set_cons_succ]
  refine heldTake 11 (v := ?_) rfl (by kernel_rfl) (by kernel_rfl) (by kernel_rfl) (fun _ _ _ h => h) (Or.inl ⟨by rfl, ?_⟩) (by assumption) ?_
  rotate_left
  · intro w hSw
    obtain ⟨_, _, _, _, _, _, _, _, _, _⟩ := hSw
    go_simp
    try with_reducible rfl
  simp only [Act.put, List.setIfInBounds_toArray, List.set_cons_zero, List.set_cons_succ]
  refine heldTake 12 (v := ?_) rfl (by kernel_rfl) (by kernel_rfl) (by kernel_rfl) (fun _ _ _ h => h) (Or.inl ⟨by rfl, ?_⟩) (by assumption) ?_
  rotate_left
  · intro w hSw
    obtain ⟨_, _, _, _, _, _, _, _, _, _⟩ := hSw
    go_simp
    try with_reducible rfl
  simp only [Act.put, List.setIfInBounds_toArray, List.set_cons_zero, List.set_cons_succ]
  refine heldTake 13 (v := ?_) rfl (by kernel_rfl) (by kernel_rfl) (by kernel_rfl) (fun _ _ _ h => h) (Or.inl ⟨by rfl, ?_⟩) (by assumption) ?_
  rotate_left
  · intro w hSw
    obtain ⟨_, _, _, _, _, _, _, _, _, _⟩ := hSw
    go_simp
    try with_reducible rfl
  simp only [Act.put, List.setIfInBounds_toArray, List.set_cons_zero, List.set_cons_succ]
  refine heldTake 14 (v := ?_) rfl (by kernel_rfl) (by kernel_rfl) (by kernel_rfl) (fun _ _ _ h => h) (Or.inl ⟨by rfl, ?_⟩) (by assumption) ?_
  rotate_left
  · intro w hSw
    obtain ⟨_, _, _, _, _, _, _, _, _, _⟩ := hSw
    go_simp
    try with_reducible rfl
  simp only [Act.put, List.setIfInBounds_toArray, List.set_cons_zero, List.set_cons_succ]
  refine heldOne 15 rfl (by kernel_rfl) (by rfl) ?_
  go_simp
  (with_reducible refine (HD3 _ _ (HZD.out _ h0.out)).out.mono ?_)
  rintro e wx ⟨rfl, hg1⟩
  replace h0 := Lib.hid (h0.out.trans hg1)
  clear hg1 hHeld
  dsimp only
  refine and_keep (HB.out _ h0.out) (fun hHeld => ?_)
  refine heldTake 16 (v := ?_) rfl (by kernel_rfl) (by kernel_rfl) (by kernel_rfl) (fun _ _ _ h => h) (Or.inl ⟨by rfl, ?_⟩) (by assumption) ?_
  rotate_left
  · intro w hSw
    obtain ⟨_, _, _, _, _, _, _, _, _, _⟩ := hSw
    go_simp
    try with_reducible rfl
  simp only [Act.put, List.setIfInBounds_toArray, List.set_cons_zero, List.set_cons_succ]
  refine heldTake 17 (v := ?_) rfl (by kernel_rfl) (by kernel_rfl) (by kernel_rfl) (fun _ _ _ h => h) (Or.inl ⟨by rfl, ?_⟩) (by assumption) ?_
  rotate_left
  · intro w hSw
    obtain ⟨_, _, _, _, _, _, _, _, _, _⟩ := hSw
    go_simp
    try with_reducible rfl
  simp only [Act.put, List.setIfInBounds_toArray, List.set_cons_zero, List.set_cons_succ]
  refine heldTake 18 (v := ?_) rfl (by kernel_rfl) (by kernel_rfl) (by kernel_rfl) (fun _ _ _ h => h) (Or.inl ⟨by rfl, ?_⟩) (by assumption) ?_
  rotate_left
  · intro w hSw
    obtain ⟨_, _, _, _, _, _, _, _, _, _⟩ := hSw
    go_simp
    try with_reducible rfl
  simp only [Act.put, List.setIfInBounds_toArray, List.set_cons_zero, List.set_cons_succ]
  refine heldTake 19 (v := ?_) rfl (by kernel_rfl) (by kernel_rfl) (by kernel_rfl) (fun _ _ _ h => h) (Or.inl ⟨by rfl, ?_⟩) (by assumption) ?_
  rotate_left
  · intro w hSw
    obtain ⟨_, _, _, _, _, _, _, _, _, _⟩ := hSw
    go_simp
    try with_reducible rfl
  simp only [Act.put, List.setIfInBounds_toArray, List.set_cons_zero, List.set_cons_succ]
  refine heldTake 20 (v := ?_) rfl (by kernel_rfl) (by kernel_rfl) (by kernel_rfl) (fun _ _ _ h => h) (Or.inl ⟨by rfl, ?_⟩) (by assumption) ?_
  rotate_left
  · intro w hSw
    obtain ⟨_, _, _, _, _, _, _, _, _, _⟩ := hSw
    go_simp
    try with_reducible rfl
  simp only [Act.put, List.setIfInBounds_toArray, List.set_cons_zero, List.set_cons_succ]
  refine heldTake 21 (v := ?_) rfl (by kernel_rfl) (by kernel_rfl) (by kernel_rfl) (fun _ _ _ h => h) (Or.inl ⟨by rfl, ?_⟩) (by assumption) ?_
  rotate_left
  · intro w hSw
    obtain ⟨_, _, _, _, _, _, _, _, _, _⟩ := hSw
    go_simp
    try with_reducible rfl
  simp only [Act.put, List.setIfInBounds_toArray, List.set_cons_zero, List.set_cons_succ]
  refine heldTake 22 (v := ?_) rfl (by kernel_rfl) (by kernel_rfl) (by kernel_rfl) (fun _ _ _ h => h) (Or.inl ⟨by rfl, ?_⟩) (by assumption) ?_
  rotate_left
  · intro w hSw
    obtain ⟨_, _, _, _, _, _, _, _, _, _⟩ := hSw
    go_simp
    try with_reducible rfl
  simp only [Act.put, List.setIfInBounds_toArray, List.set_cons_zero, List.set_cons_succ]
  refine heldOne 23 rfl (by kernel_rfl) (by rfl) ?_
  go_simp
  (with_reducible refine (HD4 _ _ (HZD.out _ h0.out)).out.mono ?_)
  rintro e wx ⟨rfl, hg1⟩
  replace h0 := Lib.hid (h0.out.trans hg1)
  clear hg1 hHeld
  dsimp only
  refine and_keep (HB.out _ h0.out) (fun hHeld => ?_)
  refine heldTake 24 (v := ?_) rfl (by kernel_rfl) (by kernel_rfl) (by kernel_rfl) (fun _ _ _ h => h) (Or.inl ⟨by rfl, ?_⟩) (by assumption) ?_
  rotate_left
  · intro w hSw
    obtain ⟨_, _, _, _, _, _, _, _, _, _⟩ := hSw
    go_simp
    try with_reducible rfl
  simp only [Act.put, List.setIfInBounds_toArray, List.set_cons_zero, List.set_cons_succ]
  refine heldTake 25 (v := ?_) rfl (by kernel_rfl) (by kernel_rfl) (by kernel_rfl) (fun _ _ _ h => h) (Or.inl ⟨by rfl, ?_⟩) (by assumption) ?_
  rotate_left
  · intro w hSw
    obtain ⟨_, _, _, _, _, _, _, _, _, _⟩ := hSw
    go_simp
    try with_reducible rfl
  simp only [Act.put, List.setIfInBounds_toArray, List.set_cons_zero, List.set_cons_succ]
  refine heldTake 26 (v := ?_) rfl (by kernel_rfl) (by kernel_rfl) (by kernel_rfl) (fun _ _ _ h => h) (Or.inl ⟨by rfl, ?_⟩) (by assumption) ?_
  rotate_left
  · intro w hSw
    obtain ⟨_, _, _, _, _, _, _, _, _, _⟩ := hSw
    go_simp
    try with_reducible rfl
  simp only [Act.put, List.setIfInBounds_toArray, List.set_cons_zero, List.set_cons_succ]
  refine heldTake 27 (v := ?_) rfl (by kernel_rfl) (by kernel_rfl) (by kernel_rfl) (fun _ _ _ h => h) (Or.inl ⟨by rfl, ?_⟩) (by assumption) ?_
  rotate_left
  · intro w hSw
    obtain ⟨_, _, _, _, _, _, _, _, _, _⟩ := hSw
    go_simp
    try with_reducible rfl
  simp only [Act.put, List.setIfInBounds_toArray, List.set_cons_zero, List.set_cons_succ]
  refine heldTake 28 (v := ?_) rfl (by kernel_rfl) (by kernel_rfl) (by kernel_rfl) (fun _ _ _ h => h) (Or.inl ⟨by rfl, ?_⟩) (by assumption) ?_
  rotate_left
  · intro w hSw
    obtain ⟨_, _, _, _, _, _, _, _, _, _⟩ := hSw
    go_simp
    try with_reducible rfl
  simp only [Act.put, List.setIfInBounds_toArray, List.set_cons_zero, List.set_cons_succ]
  refine heldTake 29 (v := ?_) rfl (by kernel_rfl) (by kernel_rfl) (by kernel_rfl) (fun _ _ _ h => h) (Or.inl ⟨by rfl, ?_⟩) (by assumption) ?_
  rotate_left
  · intro w hSw
    obtain ⟨_, _, _, _, _, _, _, _, _, _⟩ := hSw
    go_simp
    try with_reducible rfl
  simp only [Act.put, List.setIfInBounds_toArray, List.set_cons_zero, List.set_cons_succ]
  refine heldTake 31 (v := ?_) rfl (by kernel_rfl) (by kernel_rfl) (by kernel_rfl) (fun _ _ _ h => h) (Or.inl ⟨by rfl, ?_⟩) (by assumption) ?_
  rotate_left
  · intro w hSw
    obtain ⟨_, _, _, _, _, _, _, _, _, _⟩ := hSw
    go_simp
    try with_reducible rfl
  simp only [Act.put, List.setIfInBounds_toArray, List.set_cons_zero, List.set_cons_succ]
  refine heldOne 30 rfl (by kernel_rfl) (by rfl) ?_
  go_simp
  (with_reducible refine (HD5 _ _ (HZD.out _ h0.out)).out.mono ?_)
  rintro e wx ⟨rfl, hg1⟩
  replace h0 := Lib.hid (h0.out.trans hg1)
  clear hg1 hHeld
  dsimp only
  refine and_keep (HB.out _ h0.out) (fun hHeld => ?_)
  refine heldTake 32 (v := ?_) rfl (by kernel_rfl) (by kernel_rfl) (by kernel_rfl) (fun _ _ _ h => h) (Or.inl ⟨by rfl, ?_⟩) (by assumption) ?_
  rotate_left
  · intro w hSw
    obtain ⟨_, _, _, _, _, _, _, _, _, _⟩ := hSw
    go_simp
    try with_reducible rfl
  simp only [Act.put, List.setIfInBounds_toArray, List.set_cons_zero, List.set_cons_succ]
  refine heldTake 33 (v := ?_) rfl (by kernel_rfl) (by kernel_rfl) (by kernel_rfl) (fun _ _ _ h => h) (Or.inl ⟨by rfl, ?_⟩) (by assumption) ?_
  rotate_left
  · intro w hSw
    obtain ⟨_, _, _, _, _, _, _, _, _, _⟩ := hSw
    go_simp
    try with_reducible rfl
  simp only [Act.put, List.setIfInBounds_toArray, List.set_cons_zero, List.set_cons_succ]
  refine heldTake 34 (v := ?_) rfl (by kernel_rfl) (by kernel_rfl) (by kernel_rfl) (fun _ _ _ h => h) (Or.inl ⟨by rfl, ?_⟩) (by assumption) ?_
  rotate_left
  · intro w hSw
    obtain ⟨_, _, _, _, _, _, _, _, _, _⟩ := hSw
    go_simp
    try with_reducible rfl
  simp only [Act.put, List.setIfInBounds_toArray, List.set_cons_zero, List.set_cons_succ]
  refine heldTake 35 (v := ?_) rfl (by kernel_rfl) (by kernel_rfl) (by kernel_rfl) (fun _ _ _ h => h) (Or.inl ⟨by rfl, ?_⟩) (by assumption) ?_
  rotate_left
  · intro w hSw
    obtain ⟨_, _, _, _, _, _, _, _, _, _⟩ := hSw
    go_simp
    try with_reducible rfl
  simp only [Act.put, List.setIfInBounds_toArray, List.set_cons_zero, List.set_cons_succ]
  refine heldTake 36 (v := ?_) rfl (by kernel_rfl) (by kernel_rfl) (by kernel_rfl) (fun _ _ _ h => h) (Or.inl ⟨by rfl, ?_⟩) (by assumption) ?_
  rotate_left
  · intro w hSw
    obtain ⟨_, _, _, _, _, _, _, _, _, _⟩ := hSw
    go_simp
    try with_reducible rfl
  simp only [Act.put, List.setIfInBounds_toArray, List.set_cons_zero, List.set_cons_succ]
  refine heldTake 37 (v := ?_) rfl (by kernel_rfl) (by kernel_rfl) (by kernel_rfl) (fun _ _ _ h => h) (Or.inl ⟨by rfl, ?_⟩) (by assumption) ?_
  rotate_left
  · intro w hSw
    obtain ⟨_, _, _, _, _, _, _, _, _, _⟩ := hSw
    go_simp
    try with_reducible rfl
  simp only [Act.put, List.setIfInBounds_toArray, List.set_cons_zero, List.set_cons_succ]
  refine heldTake 38 (v := ?_) rfl (by kernel_rfl) (by kernel_rfl) (by kernel_rfl) (fun _ _ _ h => h) (Or.inl ⟨by rfl, ?_⟩) (by assumption) ?_
  rotate_left
  · intro w hSw
    obtain ⟨_, _, _, _, _, _, _, _, _, _⟩ := hSw
    go_simp
    try with_reducible rfl
  simp only [Act.put, List.setIfInBounds_toArray, List.set_cons_zero, List.set_cons_succ]
  refine heldTake 39 (v := undef) rfl (by kernel_rfl) (by kernel_rfl) (by kernel_rfl) (fun _ _ _ h => h) (Or.inr ⟨by rfl, rfl⟩) (by assumption) ?_
  simp only [Act.put, List.setIfInBounds_toArray, List.set_cons_zero, List.set_cons_succ]
  refine heldTake 40 (v := undef) rfl (by kernel_rfl) (by kernel_rfl) (by kernel_rfl) (fun _ _ _ h => h) (Or.inr ⟨by rfl, rfl⟩) (by assumption) ?_
  simp only [Act.put, List.setIfInBounds_toArray, List.set_cons_zero, List.set_cons_succ]
  refine heldTake 41 (v := undef) rfl (by kernel_rfl) (by kernel_rfl) (by kernel_rfl) (fun _ _ _ h => h) (Or.inr ⟨by rfl, rfl⟩) (by assumption) ?_
  simp only [Act.put, List.setIfInBounds_toArray, List.set_cons_zero, List.set_cons_succ]
  refine heldTake 43 (v := undef) rfl (by kernel_rfl) (by kernel_rfl) (by kernel_rfl) (fun _ _ _ h => h) (Or.inr ⟨by rfl, rfl⟩) (by assumption) ?_
  simp only [Act.put, List.setIfInBounds_toArray, List.set_cons_zero, List.set_cons_succ]
  refine heldTake 42 (v := undef) rfl (by kernel_rfl) (by kernel_rfl) (by kernel_rfl) (fun _ _ _ h => h) (Or.inr ⟨by rfl, rfl⟩) (by assumption) ?_
  simp only [Act.put, List.setIfInBounds_toArray, List.set_cons_zero, List.set_cons_succ]
  refine heldTake 44 (v := undef) rfl (by kernel_rfl) (by kernel_rfl) (by kernel_rfl) (fun _ _ _ h => h) (Or.inr ⟨by rfl, rfl⟩) (by assumption) ?_
  simp only [Act.put, List.setIfInBounds_toArray, List.set_cons_zero, List.set_cons_succ]
  refine heldTake 45 (v := ?_) rfl (by kernel_rfl) (by kernel_rfl) (by kernel_rfl) (fun _ _ _ h => h) (Or.inl ⟨by rfl, ?_⟩) (by assumption) ?_
  rotate_left
  · intro w hSw
    obtain ⟨_, _, _, _, _, _, _, _, _, _⟩ := hSw
    go_simp
    try with_reducible rfl
  simp only [Act.put, List.setIfInBounds_toArray, List.set_cons_zero, List.set_cons_succ]
  refine heldTake 46 (v := ?_) rfl (by kernel_rfl) (by kernel_rfl) (by kernel_rfl) (fun _ _ _ h => h) (Or.inl ⟨by rfl, ?_⟩) (by assumption) ?_
  rotate_left
  · intro w hSw
    obtain ⟨_, _, _, _, _, _, _, _, _, _⟩ := hSw
    go_simp
    try with_reducible rfl
  simp only [Act.put, List.setIfInBounds_toArray, List.set_cons_zero, List.set_cons_succ]
  refine wpAnyH_done (by kernel_rfl) ?_ _
  have k1 := h0.out.kp
  refine NoPanic.normal (hexit _ _ _ _ _ _ _ _ _ _ _ _ _ _ _ _ _ _ _ _ _ _ _ _ _ _ _ _ _ _ _ _ _ _ _ _ _ _ _ _ _ _ _ _ _ _ _ ?_)
  exact ⟨SS.kp k1, PP.kp k1, Xx.kp k1, Xy.kp k1, Xz.kp k1, BZ.kp k1, hg0.trans h0.out⟩

set_option maxRecDepth 100000 in
set_option maxHeartbeats 4000000 in
theorem laws_r11 {v0 v1 v2 v3 v4 v5 v6 v8 v10 v12 v13 v17 v18 v19 v20 v21 v22 v23 v24 v25 v26 v27 v28 v29 v30 v31 v32 v33 v34 v35 v36 v37 v38 v39 v40 v41 v42 v43 v44 v45 v46 v47 v48 v49 v50 v51 v52 v53 v54 v55 v56 v57 v58 v59 v60 v61 v62 v63 v64 v65 v66 v67 v68 v69 v70 v71 v72 v73 v74 v75 v76 v77 v78 v79 v80 v81 v82 v83 v84 v85 v86 v87 v88 v89 v90 v91 v92 v93 v94 v95 v96 v97 v98 v99 v100 v101 v102 v103 v104 v105 v106 v107 v108 v109 v110 v111 v112 v113 v114 v115 v116 v117 v118 v119 v120 v121 v122 v123 v124 v125 v126 v127 v128 v129 v130 v131 v132 v133 v134 v135 v136 v137 v138 v139 v140 v141 v142 v143 v144 v145 v146 v147 v148 v149 : Value} {xn xd yn yd zn zd sn sd pn pd un ud tn td qn qd rn rd : Int} {bXx bXy bXz bS bP bb : Nat} {W w0 : World} (d7 : (plN sn sd zn zd = un ∧ plD sn sd zn zd = ud ∧ plE sn sd zn zd = 0)) (d8 : (plN yn yd zn zd = tn ∧ plD yn yd zn zd = td ∧ plE yn yd zn zd = 0)) (d9 : (plN xn xd tn td = un ∧ plD xn xd tn td = ud ∧ plE xn xd tn td = 0)) (d10 : (tmN pn pd zn zd = qn ∧ tmD pn pd zn zd = qd ∧ tmE pn pd zn zd = 0)) (d11 : (tmN yn yd zn zd = rn ∧ tmD yn yd zn zd = rd ∧ tmE yn yd zn zd = 0)) (d12 : (tmN xn xd rn rd = qn ∧ tmD xn xd rn rd = qd ∧ tmE xn xd rn rd = 0))  (Xx : C2 w0 bXx (.int .i64 xn) (.int .i64 xd)) (Xy : C2 w0 bXy (.int .i64 yn) (.int .i64 yd)) (Xz : C2 w0 bXz (.int .i64 zn) (.int .i64 zd)) (SS : C2 w0 bS (.int .i64 sn) (.int .i64 sd)) (PP : C2 w0 bP (.int .i64 pn) (.int .i64 pd)) (BZ : Zd w0 bb) (hg0 : GrewS W w0) {Q : Exit → Act → World → Prop}
    (hexit : ∀ (u105 u106 u107 u108 u109 u110 u111 u112 u113 u114 u115 u116 u117 u118 u119 u120 u121 u122 u123 u124 u125 u126 u127 u128 u129 : Value) (w' : World), (C2 w' bS (.int .i64 sn) (.int .i64 sd) ∧ C2 w' bP (.int .i64 pn) (.int .i64 pd) ∧ C2 w' bXx (.int .i64 xn) (.int .i64 xd) ∧ C2 w' bXy (.int .i64 yn) (.int .i64 yd) ∧ C2 w' bXz (.int .i64 zn) (.int .i64 zd) ∧ Zd w' bb ∧ GrewS W w') → Q .normal ⟨#[v0, v1, v2, v3, v4, v5, v6, .pointer (some ⟨bXx, 0, none⟩), v8, .pointer (some ⟨bXy, 0, none⟩), v10, .pointer (some ⟨bXz, 0, none⟩), v12, v13, .func (.func 14) #[] #[.pointer (some ⟨bb, 0, none⟩)], .pointer (some ⟨bS, 0, none⟩), .pointer (some ⟨bP, 0, none⟩), v17, v18, v19, v20, v21, v22, v23, v24, v25, v26, v27, v28, v29, v30, v31, v32, v33, v34, v35, v36, v37, v38, v39, v40, v41, v42, v43, v44, v45, v46, v47, v48, v49, v50, v51, v52, v53, v54, v55, v56, v57, v58, v59, v60, v61, v62, v63, v64, v65, v66, v67, v68, v69, v70, v71, v72, v73, v74, v75, v76, v77, v78, v79, v80, v81, v82, v83, v84, v85, v86, v87, v88, v89, v90, v91, v92, v93, v94, v95, v96, v97, v98, v99, v100, v101, v102, v103, v104, u105, u106, u107, u108, u109, u110, u111, u112, u113, u114, u115, u116, u117, u118, u119, u120, u121, u122, u123, u124, u125, u126, u127, u128, u129, .bool false, v131, v132, v133, v134, v135, v136, v137, v138, v139, v140, v141, v142, v143, v144, v145, v146, v147, v148, v149], []⟩ w') :
    Code.wp Try.prog code3_11 Q ⟨#[v0, v1, v2, v3, v4, v5, v6, .pointer (some ⟨bXx, 0, none⟩), v8, .pointer (some ⟨bXy, 0, none⟩), v10, .pointer (some ⟨bXz, 0, none⟩), v12, v13, .func (.func 14) #[] #[.pointer (some ⟨bb, 0, none⟩)], .pointer (some ⟨bS, 0, none⟩), .pointer (some ⟨bP, 0, none⟩), v17, v18, v19, v20, v21, v22, v23, v24, v25, v26, v27, v28, v29, v30, v31, v32, v33, v34, v35, v36, v37, v38, v39, v40, v41, v42, v43, v44, v45, v46, v47, v48, v49, v50, v51, v52, v53, v54, v55, v56, v57, v58, v59, v60, v61, v62, v63, v64, v65, v66, v67, v68, v69, v70, v71, v72, v73, v74, v75, v76, v77, v78, v79, v80, v81, v82, v83, v84, v85, v86, v87, v88, v89, v90, v91, v92, v93, v94, v95, v96, v97, v98, v99, v100, v101, v102, v103, v104, v105, v106, v107, v108, v109, v110, v111, v112, v113, v114, v115, v116, v117, v118, v119, v120, v121, v122, v123, v124, v125, v126, v127, v128, v129, v130, v131, v132, v133, v134, v135, v136, v137, v138, v139, v140, v141, v142, v143, v144, v145, v146, v147, v148, v149], []⟩ w0 := by
  conv => arg 2; whnf
  refine wp_region_noPanic ?_
  have HD7 := fun W bb hz => Lib.hid (do15 (a := sn) (b := sd) (c := zn) (d := zd) W bb hz d7)
  clear d7
  have HD8 := fun W bb hz => Lib.hid (do15 (a := yn) (b := yd) (c := zn) (d := zd) W bb hz d8)
  clear d8
  have HD9 := fun W bb hz => Lib.hid (do15 (a := xn) (b := xd) (c := tn) (d := td) W bb hz d9)
  clear d9
  have HD10 := fun W bb hz => Lib.hid (do16 (a := pn) (b := pd) (c := zn) (d := zd) W bb hz d10)
  clear d10
  have HD11 := fun W bb hz => Lib.hid (do16 (a := yn) (b := yd) (c := zn) (d := zd) W bb hz d11)
  clear d11
  have HD12 := fun W bb hz => Lib.hid (do16 (a := xn) (b := xd) (c := rn) (d := rd) W bb hz d12)
  clear d12
  have HB := Lib.hid (show ∀ w', GrewS w0 w' → (w'.cell? ⟨bXx, 0, none⟩ = some (.int .i64 xn) ∧ w'.cell? ⟨bXx, 1, none⟩ = some (.int .i64 xd) ∧ w'.cell? ⟨bXy, 0, none⟩ = some (.int .i64 yn) ∧ w'.cell? ⟨bXy, 1, none⟩ = some (.int .i64 yd) ∧ w'.cell? ⟨bXz, 0, none⟩ = some (.int .i64 zn) ∧ w'.cell? ⟨bXz, 1, none⟩ = some (.int .i64 zd) ∧ w'.cell? ⟨bS, 0, none⟩ = some (.int .i64 sn) ∧ w'.cell? ⟨bS, 1, none⟩ = some (.int .i64 sd) ∧ w'.cell? ⟨bP, 0, none⟩ = some (.int .i64 pn) ∧ w'.cell? ⟨bP, 1, none⟩ = some (.int .i64 pd)) from fun w' g => ⟨(Xx.kp g.kp).c0, (Xx.kp g.kp).c1, (Xy.kp g.kp).c0, (Xy.kp g.kp).c1, (Xz.kp g.kp).c0, (Xz.kp g.kp).c1, (SS.kp g.kp).c0, (SS.kp g.kp).c1, (PP.kp g.kp).c0, (PP.kp g.kp).c1⟩)
  have HZD := Lib.hid (show ∀ w', GrewS w0 w' → Zd w' bb from fun w' g => BZ.kp g.kp)
  have h0 := Lib.hid (GrewS.refl w0)
  go_region_held3 (fun w' => w'.cell? ⟨bXx, 0, none⟩ = some (.int .i64 xn) ∧ w'.cell? ⟨bXx, 1, none⟩ = some (.int .i64 xd) ∧ w'.cell? ⟨bXy, 0, none⟩ = some (.int .i64 yn) ∧ w'.cell? ⟨bXy, 1, none⟩ = some (.int .i64 yd) ∧ w'.cell? ⟨bXz, 0, none⟩ = some (.int .i64 zn) ∧ w'.cell? ⟨bXz, 1, none⟩ = some (.int .i64 zd) ∧ w'.cell? ⟨bS, 0, none⟩ = some (.int .i64 sn) ∧ w'.cell? ⟨bS, 1, none⟩ = some (.int .i64 sd) ∧ w'.cell? ⟨bP, 0, none⟩ = some (.int .i64 pn) ∧ w'.cell? ⟨bP, 1, none⟩ = some (.int .i64 pd))
    (first | exact HB.out _ h0.out | exact HB.out _ h0.out.drew)
    (first | (go_at_call 14; (with_reducible refine (HD7 _ _ (HZD.out _ (by first | exact h0.out | exact h0.out.drew))).out.mono ?_); rintro e wx ⟨rfl, hg1⟩; replace h0 := Lib.hid (GrewS.trans (by first | exact h0.out | exact h0.out.drew) hg1); clear hg1) | (go_at_call 14; (with_reducible refine (HD8 _ _ (HZD.out _ (by first | exact h0.out | exact h0.out.drew))).out.mono ?_); rintro e wx ⟨rfl, hg1⟩; replace h0 := Lib.hid (GrewS.trans (by first | exact h0.out | exact h0.out.drew) hg1); clear hg1) | (go_at_call 14; (with_reducible refine (HD9 _ _ (HZD.out _ (by first | exact h0.out | exact h0.out.drew))).out.mono ?_); rintro e wx ⟨rfl, hg1⟩; replace h0 := Lib.hid (GrewS.trans (by first | exact h0.out | exact h0.out.drew) hg1); clear hg1) | (go_at_call 14; (with_reducible refine (HD10 _ _ (HZD.out _ (by first | exact h0.out | exact h0.out.drew))).out.mono ?_); rintro e wx ⟨rfl, hg1⟩; replace h0 := Lib.hid (GrewS.trans (by first | exact h0.out | exact h0.out.drew) hg1); clear hg1) | (go_at_call 14; (with_reducible refine (HD11 _ _ (HZD.out _ (by first | exact h0.out | exact h0.out.drew))).out.mono ?_); rintro e wx ⟨rfl, hg1⟩; replace h0 := Lib.hid (GrewS.trans (by first | exact h0.out | exact h0.out.drew) hg1); clear hg1) | (go_at_call 14; (with_reducible refine (HD12 _ _ (HZD.out _ (by first | exact h0.out | exact h0.out.drew))).out.mono ?_); rintro e wx ⟨rfl, hg1⟩; replace h0 := Lib.hid (GrewS.trans (by first | exact h0.out | exact h0.out.drew) hg1); clear hg1))
  have k1 := h0.out.kp
  refine NoPanic.normal (hexit _ _ _ _ _ _ _ _ _ _ _ _ _ _ _ _ _ _ _ _ _ _ _ _ _ _ ?_)
  exact ⟨SS.kp k1, PP.kp k1, Xx.kp k1, Xy.kp k1, Xz.kp k1, BZ.kp k1, hg0.trans h0.out⟩

set_option maxRecDepth 100000 in
set_option maxHeartbeats 4000000 in
theorem laws_r13 {v0 v1 v2 v3 v4 v5 v6 v8 v10 v12 v17 v18 v19 v20 v21 v22 v23 v24 v25 v26 v27 v28 v29 v30 v31 v32 v33 v34 v35 v36 v37 v38 v39 v40 v41 v42 v43 v44 v45 v46 v47 v48 v49 v50 v51 v52 v53 v54 v55 v56 v57 v58 v59 v60 v61 v62 v63 v64 v65 v66 v67 v68 v69 v70 v71 v72 v73 v74 v75 v76 v77 v78 v79 v80 v81 v82 v83 v84 v85 v86 v87 v88 v89 v90 v91 v92 v93 v94 v95 v96 v97 v98 v99 v100 v101 v102 v103 v104 v105 v106 v107 v108 v109 v110 v111 v112 v113 v114 v115 v116 v117 v118 v119 v120 v121 v122 v123 v124 v125 v126 v127 v128 v129 v130 v131 v132 v133 v134 v135 v136 v137 v138 v139 v140 v141 v142 v143 v144 v145 v146 v147 v148 v149 : Value} {xn xd yn yd zn zd sn sd pn pd rn rd kn kd ln ld : Int} {bXx bXy bXz bS bP bb : Nat} {W w0 : World} (d13 : (tmN sn sd zn zd = kn ∧ tmD sn sd zn zd = kd ∧ tmE sn sd zn zd = 0)) (d14 : (tmN xn xd zn zd = ln ∧ tmD xn xd zn zd = ld ∧ tmE xn xd zn zd = 0)) (d11 : (tmN yn yd zn zd = rn ∧ tmD yn yd zn zd = rd ∧ tmE yn yd zn zd = 0)) (d15 : (plN ln ld rn rd = kn ∧ plD ln ld rn rd = kd ∧ plE ln ld rn rd = 0))  (Xx : C2 w0 bXx (.int .i64 xn) (.int .i64 xd)) (Xy : C2 w0 bXy (.int .i64 yn) (.int .i64 yd)) (Xz : C2 w0 bXz (.int .i64 zn) (.int .i64 zd)) (SS : C2 w0 bS (.int .i64 sn) (.int .i64 sd)) (PP : C2 w0 bP (.int .i64 pn) (.int .i64 pd)) (BZ : Zd w0 bb) (hg0 : GrewS W w0) {Q : Exit → Act → World → Prop}
    (hexit : ∀ (u131 u132 u133 u134 u135 u136 u137 u138 u139 u140 u141 u142 u143 u144 u145 u146 u147 u148 u149 : Value) (w' : World), (C2 w' bS (.int .i64 sn) (.int .i64 sd) ∧ C2 w' bP (.int .i64 pn) (.int .i64 pd) ∧ C2 w' bXx (.int .i64 xn) (.int .i64 xd) ∧ C2 w' bXy (.int .i64 yn) (.int .i64 yd) ∧ C2 w' bXz (.int .i64 zn) (.int .i64 zd) ∧ Zd w' bb ∧ GrewS W w') → Q .normal ⟨#[v0, v1, v2, v3, v4, v5, .bool true, .pointer (some ⟨bXx, 0, none⟩), v8, .pointer (some ⟨bXy, 0, none⟩), v10, .pointer (some ⟨bXz, 0, none⟩), v12, .pointer (some ⟨bb, 0, none⟩), .func (.func 14) #[] #[.pointer (some ⟨bb, 0, none⟩)], .pointer (some ⟨bS, 0, none⟩), .pointer (some ⟨bP, 0, none⟩), v17, v18, v19, v20, v21, v22, v23, v24, v25, v26, v27, v28, v29, v30, v31, v32, v33, v34, v35, v36, v37, v38, v39, v40, v41, v42, v43, v44, v45, v46, v47, v48, v49, v50, v51, v52, v53, v54, v55, v56, v57, v58, v59, v60, v61, v62, v63, v64, v65, v66, v67, v68, v69, v70, v71, v72, v73, v74, v75, v76, v77, v78, v79, v80, v81, v82, v83, v84, v85, v86, v87, v88, v89, v90, v91, v92, v93, v94, v95, v96, v97, v98, v99, v100, v101, v102, v103, v104, v105, v106, v107, v108, v109, v110, v111, v112, v113, v114, v115, v116, v117, v118, v119, v120, v121, v122, v123, v124, v125, v126, v127, v128, v129, v130, u131, u132, u133, u134, u135, u136, u137, u138, u139, u140, u141, u142, u143, u144, u145, u146, u147, u148, u149], []⟩ w') :
    Code.wp Try.prog code3_13 Q ⟨#[v0, v1, v2, v3, v4, v5, v6, .pointer (some ⟨bXx, 0, none⟩), v8, .pointer (some ⟨bXy, 0, none⟩), v10, .pointer (some ⟨bXz, 0, none⟩), v12, .pointer (some ⟨bb, 0, none⟩), .func (.func 14) #[] #[.pointer (some ⟨bb, 0, none⟩)], .pointer (some ⟨bS, 0, none⟩), .pointer (some ⟨bP, 0, none⟩), v17, v18, v19, v20, v21, v22, v23, v24, v25, v26, v27, v28, v29, v30, v31, v32, v33, v34, v35, v36, v37, v38, v39, v40, v41, v42, v43, v44, v45, v46, v47, v48, v49, v50, v51, v52, v53, v54, v55, v56, v57, v58, v59, v60, v61, v62, v63, v64, v65, v66, v67, v68, v69, v70, v71, v72, v73, v74, v75, v76, v77, v78, v79, v80, v81, v82, v83, v84, v85, v86, v87, v88, v89, v90, v91, v92, v93, v94, v95, v96, v97, v98, v99, v100, v101, v102, v103, v104, v105, v106, v107, v108, v109, v110, v111, v112, v113, v114, v115, v116, v117, v118, v119, v120, v121, v122, v123, v124, v125, v126, v127, v128, v129, v130, v131, v132, v133, v134, v135, v136, v137, v138, v139, v140, v141, v142, v143, v144, v145, v146, v147, v148, v149], []⟩ w0 := by
  conv => arg 2; whnf
  refine wp_region_noPanic ?_
  have HD13 := fun W bb hz => Lib.hid (do16 (a := sn) (b := sd) (c := zn) (d := zd) W bb hz d13)
  clear d13
  have HD14 := fun W bb hz => Lib.hid (do16 (a := xn) (b := xd) (c := zn) (d := zd) W bb hz d14)
  clear d14
  have HD11 := fun W bb hz => Lib.hid (do16 (a := yn) (b := yd) (c := zn) (d := zd) W bb hz d11)
  clear d11
  have HD15 := fun W bb hz => Lib.hid (do15 (a := ln) (b := ld) (c := rn) (d := rd) W bb hz d15)
  clear d15
  have HB := Lib.hid (show ∀ w', GrewS w0 w' → (w'.cell? ⟨bXx, 0, none⟩ = some (.int .i64 xn) ∧ w'.cell? ⟨bXx, 1, none⟩ = some (.int .i64 xd) ∧ w'.cell? ⟨bXy, 0, none⟩ = some (.int .i64 yn) ∧ w'.cell? ⟨bXy, 1, none⟩ = some (.int .i64 yd) ∧ w'.cell? ⟨bXz, 0, none⟩ = some (.int .i64 zn) ∧ w'.cell? ⟨bXz, 1, none⟩ = some (.int .i64 zd) ∧ w'.cell? ⟨bS, 0, none⟩ = some (.int .i64 sn) ∧ w'.cell? ⟨bS, 1, none⟩ = some (.int .i64 sd) ∧ w'.cell? ⟨bP, 0, none⟩ = some (.int .i64 pn) ∧ w'.cell? ⟨bP, 1, none⟩ = some (.int .i64 pd) ∧ w'.cell? ⟨bb, 0, none⟩ = some (.int .i64 0)) from fun w' g => ⟨(Xx.kp g.kp).c0, (Xx.kp g.kp).c1, (Xy.kp g.kp).c0, (Xy.kp g.kp).c1, (Xz.kp g.kp).c0, (Xz.kp g.kp).c1, (SS.kp g.kp).c0, (SS.kp g.kp).c1, (PP.kp g.kp).c0, (PP.kp g.kp).c1, (BZ.kp g.kp).1.1⟩)
  have HZD := Lib.hid (show ∀ w', GrewS w0 w' → Zd w' bb from fun w' g => BZ.kp g.kp)
  have h0 := Lib.hid (GrewS.refl w0)
  go_region_held3 (fun w' => w'.cell? ⟨bXx, 0, none⟩ = some (.int .i64 xn) ∧ w'.cell? ⟨bXx, 1, none⟩ = some (.int .i64 xd) ∧ w'.cell? ⟨bXy, 0, none⟩ = some (.int .i64 yn) ∧ w'.cell? ⟨bXy, 1, none⟩ = some (.int .i64 yd) ∧ w'.cell? ⟨bXz, 0, none⟩ = some (.int .i64 zn) ∧ w'.cell? ⟨bXz, 1, none⟩ = some (.int .i64 zd) ∧ w'.cell? ⟨bS, 0, none⟩ = some (.int .i64 sn) ∧ w'.cell? ⟨bS, 1, none⟩ = some (.int .i64 sd) ∧ w'.cell? ⟨bP, 0, none⟩ = some (.int .i64 pn) ∧ w'.cell? ⟨bP, 1, none⟩ = some (.int .i64 pd) ∧ w'.cell? ⟨bb, 0, none⟩ = some (.int .i64 0))
    (first | exact HB.out _ h0.out | exact HB.out _ h0.out.drew)
    (first | (go_at_call 14; (with_reducible refine (HD13 _ _ (HZD.out _ (by first | exact h0.out | exact h0.out.drew))).out.mono ?_); rintro e wx ⟨rfl, hg1⟩; replace h0 := Lib.hid (GrewS.trans (by first | exact h0.out | exact h0.out.drew) hg1); clear hg1) | (go_at_call 14; (with_reducible refine (HD14 _ _ (HZD.out _ (by first | exact h0.out | exact h0.out.drew))).out.mono ?_); rintro e wx ⟨rfl, hg1⟩; replace h0 := Lib.hid (GrewS.trans (by first | exact h0.out | exact h0.out.drew) hg1); clear hg1) | (go_at_call 14; (with_reducible refine (HD11 _ _ (HZD.out _ (by first | exact h0.out | exact h0.out.drew))).out.mono ?_); rintro e wx ⟨rfl, hg1⟩; replace h0 := Lib.hid (GrewS.trans (by first | exact h0.out | exact h0.out.drew) hg1); clear hg1) | (go_at_call 14; (with_reducible refine (HD15 _ _ (HZD.out _ (by first | exact h0.out | exact h0.out.drew))).out.mono ?_); rintro e wx ⟨rfl, hg1⟩; replace h0 := Lib.hid (GrewS.trans (by first | exact h0.out | exact h0.out.drew) hg1); clear hg1))
  have k1 := h0.out.kp
  refine NoPanic.normal (hexit _ _ _ _ _ _ _ _ _ _ _ _ _ _ _ _ _ _ _ _ ?_)
  exact ⟨SS.kp k1, PP.kp k1, Xx.kp k1, Xy.kp k1, Xz.kp k1, BZ.kp k1, hg0.trans h0.out⟩
set_option maxRecDepth 100000 in
set_option maxHeartbeats 4000000 in
theorem law3 {a0 a1 b0 b1 c0 c1 : Int} {W0 : World} (ha0 : (Lit.int .u8 a0).wf = true) (ha1 : (Lit.int .u8 a1).wf = true) (hb0 : (Lit.int .u8 b0).wf = true) (hb1 : (Lit.int .u8 b1).wf = true) (hc0 : (Lit.int .u8 c0).wf = true) (hc1 : (Lit.int .u8 c1).wf = true) :
    Calls Try.prog 3 #[.agg #[.int .u8 a0, .int .u8 a1], .agg #[.int .u8 b0, .int .u8 b1], .agg #[.int .u8 c0, .int .u8 c1]] W0 fun e w' => e = .returned (.bool true) ∧ Kp W0.heap.size W0 w' := by
  obtain ⟨a0l, a0u⟩ := bounds_u8 ha0
  obtain ⟨a1l, a1u⟩ := bounds_u8 ha1
  obtain ⟨b0l, b0u⟩ := bounds_u8 hb0
  obtain ⟨b1l, b1u⟩ := bounds_u8 hb1
  obtain ⟨c0l, c0u⟩ := bounds_u8 hc0
  obtain ⟨c1l, c1u⟩ := bounds_u8 hc1
  have sx := sm8 a0l a0u a1l a1u
  have HSx' := fun W => small_any (n := a0) (d := a1) W a0l (by omega) a1l (by omega)
  generalize ofN a0 (1 + a1) = xn at *
  generalize ofD a0 (1 + a1) = xd at *
  have HSx := fun W => Lib.hid (HSx' W)
  clear HSx'
  have sy := sm8 b0l b0u b1l b1u
  have HSy' := fun W => small_any (n := b0) (d := b1) W b0l (by omega) b1l (by omega)
  generalize ofN b0 (1 + b1) = yn at *
  generalize ofD b0 (1 + b1) = yd at *
  have HSy := fun W => Lib.hid (HSy' W)
  clear HSy'
  have sz := sm8 c0l c0u c1l c1u
  have HSz' := fun W => small_any (n := c0) (d := c1) W c0l (by omega) c1l (by omega)
  generalize ofN c0 (1 + c1) = zn at *
  generalize ofD c0 (1 + c1) = zd at *
  have HSz := fun W => Lib.hid (HSz' W)
  clear HSz'
  obtain ⟨sn, sd, pn, pd, un, ud, tn, td, qn, qd, rn, rd, kn, kd, ln, ld, d1, d2, d3, d4, d5, d6, d7, d8, d9, d10, d11, d12, d13, d14, d15⟩ := laws_all sx sy sz
  replace d1 := Lib.hid d1
  replace d2 := Lib.hid d2
  replace d3 := Lib.hid d3
  replace d4 := Lib.hid d4
  replace d5 := Lib.hid d5
  replace d6 := Lib.hid d6
  replace d7 := Lib.hid d7
  replace d8 := Lib.hid d8
  replace d9 := Lib.hid d9
  replace d10 := Lib.hid d10
  replace d11 := Lib.hid d11
  replace d12 := Lib.hid d12
  replace d13 := Lib.hid d13
  replace d14 := Lib.hid d14
  replace d15 := Lib.hid d15
  have yn0 := sy.n0
  have HAw := fun w => Lib.hid (awake_any w)
  clear ha0 ha1 hb0 hb1 hc0 hc1 sx sy sz
  go_enter Try.func3, Try.ntmps3
  go_wp2_with fail
  (with_reducible refine (HAw _).out.mono ?_)
  have ka : Kp W0.heap.size W0 (((W0.alloc (.cells #[.int .u8 a0, .int .u8 a1] 22)).alloc (.cells #[.int .u8 b0, .int .u8 b1] 22)).alloc (.cells #[.int .u8 c0, .int .u8 c1] 22)) := (((GrewS.refl W0).alloc _).alloc _).alloc _ |>.kp
  have A := ((C2.new W0 (.int .u8 a0) (.int .u8 a1) 22).alloc (.cells #[.int .u8 b0, .int .u8 b1] 22)).alloc (.cells #[.int .u8 c0, .int .u8 c1] 22)
  have B := (C2.new (W0.alloc (.cells #[.int .u8 a0, .int .u8 a1] 22)) (.int .u8 b0) (.int .u8 b1) 22).alloc (.cells #[.int .u8 c0, .int .u8 c1] 22)
  have C := C2.new ((W0.alloc (.cells #[.int .u8 a0, .int .u8 a1] 22)).alloc (.cells #[.int .u8 b0, .int .u8 b1] 22)) (.int .u8 c0) (.int .u8 c1) 22
  rw [show (W0.alloc (.cells #[.int .u8 a0, .int .u8 a1] 22)).heap.size = W0.heap.size + 1 by simp] at B
  rw [show ((W0.alloc (.cells #[.int .u8 a0, .int .u8 a1] 22)).alloc (.cells #[.int .u8 b0, .int .u8 b1] 22)).heap.size = W0.heap.size + 1 + 1 by simp] at C
  rintro e W ⟨rfl, hk⟩
  have HK0 := Lib.hid (ka.trans (hk.mono ka.size))
  replace A := A.kp hk
  replace B := B.kp hk
  replace C := C.kp hk
  have hg := Lib.hid (GrewS.refl W)
  clear ka hk HAw
  have A0 := A.c0
  have A1 := A.c1
  have Al := A.lt
  go_wp2_with fail
  (with_reducible refine (HSx _).out.mono ?_)
  clear A0 A1 Al
  rintro e u1 ⟨rfl, hg1⟩
  have k1 := hg1.kp
  replace A := A.kp k1
  replace B := B.kp k1
  replace C := C.kp k1
  replace hg := Lib.hid (GrewS.trans (hg.out) hg1)
  clear k1 hg1
  have B0 := B.c0
  have B1 := B.c1
  have Bl := B.lt
  go_wp2_with fail
  (with_reducible refine (HSy _).out.mono ?_)
  clear B0 B1 Bl
  rintro e u2 ⟨rfl, hg1⟩
  have k1 := hg1.kp
  replace A := (A.alloc _).kp k1
  replace B := (B.alloc _).kp k1
  replace C := (C.alloc _).kp k1
  have Xx := (C2.new u1 (.int .i64 xn) (.int .i64 xd) 25).kp k1
  replace hg := Lib.hid (GrewS.trans (hg.out.alloc _) hg1)
  clear k1 hg1
  generalize u1.heap.size = bXx at *
  have C0 := C.c0
  have C1 := C.c1
  have Cl := C.lt
  go_wp2_with fail
  (with_reducible refine (HSz _).out.mono ?_)
  clear C0 C1 Cl
  rintro e u3 ⟨rfl, hg1⟩
  have k1 := hg1.kp
  replace A := (A.alloc _).kp k1
  replace B := (B.alloc _).kp k1
  replace C := (C.alloc _).kp k1
  replace Xx := (Xx.alloc _).kp k1
  have Xy := (C2.new u2 (.int .i64 yn) (.int .i64 yd) 25).kp k1
  replace hg := Lib.hid (GrewS.trans (hg.out.alloc _) hg1)
  clear k1 hg1
  generalize u2.heap.size = bXy at *
  clear A B C HSx HSy HSz
  go_upto_region 8 with fail
  have Xz := C2.new u3 (.int .i64 zn) (.int .i64 zd) 25
  have hzl : (u3.alloc (.cells #[.int .i64 zn, .int .i64 zd] 25)).heap.size = u3.heap.size + 1 := by simp
  replace Xz := Xz.alloc (.cells #[.int .i64 0] 29)
  have BD : At ((u3.alloc (.cells #[.int .i64 zn, .int .i64 zd] 25)).alloc (.cells #[.int .i64 0] 29)) ⟨u3.heap.size + 1, 0, none⟩ (.int .i64 0) := ⟨by simp, by simp⟩
  have FBD : Fz ((u3.alloc (.cells #[.int .i64 zn, .int .i64 zd] 25)).alloc (.cells #[.int .i64 0] 29)) (u3.heap.size + 1) := by simpa using Fz.new (u3.alloc (.cells #[.int .i64 zn, .int .i64 zd] 25)) #[.int .i64 0] 29
  replace Xx := (Xx.alloc (.cells #[.int .i64 zn, .int .i64 zd] 25)).alloc (.cells #[.int .i64 0] 29)
  replace Xy := (Xy.alloc (.cells #[.int .i64 zn, .int .i64 zd] 25)).alloc (.cells #[.int .i64 0] 29)
  replace hg := Lib.hid ((hg.out.alloc (.cells #[.int .i64 zn, .int .i64 zd] 25)).alloc (.cells #[.int .i64 0] 29))
  generalize (u3.alloc (.cells #[.int .i64 zn, .int .i64 zd] 25)).alloc (.cells #[.int .i64 0] 29) = u4 at *
  have hbb : u3.heap.size < u3.heap.size + 1 := Nat.lt_succ_self _
  generalize u3.heap.size + 1 = bb at *
  generalize u3.heap.size = bXz at *
  clear hzl
  refine laws_r8 d1.out d2.out Xx Xy Xz BD FBD hg.out ?_
  clear Xx Xy Xz BD FBD hg d1 d2
  rintro u15 u16 u50 u51 u52 u53 u54 u55 u56 u57 w5 ⟨bS, bP, rfl, rfl, SS, PP, Xx, Xy, Xz, BZ, hg0⟩
  have hg := Lib.hid hg0
  clear hg0
  go_upto_region 9 with fail
  have R9 : ∀ {Q : Exit → Act → World → Prop}, True := fun {_} => trivial
  clear R9
  by_cases hy : 0 < yn
  rotate_left
  · refine laws_r9z d3.out d4.out d5.out (by omega) Xx Xy Xz SS PP BZ hg.out ?_
    clear Xx Xy Xz SS PP BZ hg d3 d4 d5 d6
    rintro u58 u59 u60 u61 u62 u63 u64 u65 u66 u67 u68 u69 u70 u71 u72 u73 u74 u75 u76 u77 u78 u79 u80 u81 u82 u83 u84 u85 u86 u87 u88 u89 u90 u91 u92 u93 u94 u95 u96 u97 u98 u99 u100 u101 u102 u103 w6 ⟨SS, PP, Xx, Xy, Xz, BZ, hg0⟩
    have hg := Lib.hid hg0
    clear hg0
    go_upto_region 11 with fail
    refine laws_r11 d7.out d8.out d9.out d10.out d11.out d12.out Xx Xy Xz SS PP BZ hg.out ?_
    clear Xx Xy Xz SS PP BZ hg d7 d8 d9 d10 d12
    rintro u105 u106 u107 u108 u109 u110 u111 u112 u113 u114 u115 u116 u117 u118 u119 u120 u121 u122 u123 u124 u125 u126 u127 u128 u129 w7 ⟨SS, PP, Xx, Xy, Xz, BZ, hg0⟩
    have hg := Lib.hid hg0
    clear hg0
    go_upto_region 13 with fail
    refine laws_r13 d13.out d14.out d11.out d15.out Xx Xy Xz SS PP BZ hg.out ?_
    clear Xx Xy Xz SS PP BZ hg d13 d14 d11 d15
    rintro u131 u132 u133 u134 u135 u136 u137 u138 u139 u140 u141 u142 u143 u144 u145 u146 u147 u148 u149 w8 ⟨SS, PP, Xx, Xy, Xz, BZ, hg0⟩
    have hg := Lib.hid hg0
    clear hg0
    have HKF := Lib.hid (HK0.out.trans (hg.out.kp.mono HK0.out.size))
    clear hg SS PP Xx Xy Xz BZ
    go_wp2_with fail
    go_ret
    exact ⟨rfl, HKF.out⟩
  · refine laws_r9p d3.out d4.out d5.out (d6.out hy) hy Xx Xy Xz SS PP BZ hg.out ?_
    clear Xx Xy Xz SS PP BZ hg d3 d4 d5 d6
    rintro u58 u59 u60 u61 u62 u63 u64 u65 u66 u67 u68 u69 u70 u71 u72 u73 u74 u75 u76 u77 u78 u79 u80 u81 u82 u83 u84 u85 u86 u87 u88 u89 u90 u91 u92 u93 u94 u95 u96 u97 u98 u99 u100 u101 u102 u103 w6 ⟨SS, PP, Xx, Xy, Xz, BZ, hg0⟩
    have hg := Lib.hid hg0
    clear hg0
    go_upto_region 11 with fail
    refine laws_r11 d7.out d8.out d9.out d10.out d11.out d12.out Xx Xy Xz SS PP BZ hg.out ?_
    clear Xx Xy Xz SS PP BZ hg d7 d8 d9 d10 d12
    rintro u105 u106 u107 u108 u109 u110 u111 u112 u113 u114 u115 u116 u117 u118 u119 u120 u121 u122 u123 u124 u125 u126 u127 u128 u129 w7 ⟨SS, PP, Xx, Xy, Xz, BZ, hg0⟩
    have hg := Lib.hid hg0
    clear hg0
    go_upto_region 13 with fail
    refine laws_r13 d13.out d14.out d11.out d15.out Xx Xy Xz SS PP BZ hg.out ?_
    clear Xx Xy Xz SS PP BZ hg d13 d14 d11 d15
    rintro u131 u132 u133 u134 u135 u136 u137 u138 u139 u140 u141 u142 u143 u144 u145 u146 u147 u148 u149 w8 ⟨SS, PP, Xx, Xy, Xz, BZ, hg0⟩
    have hg := Lib.hid hg0
    clear hg0
    have HKF := Lib.hid (HK0.out.trans (hg.out.kp.mono HK0.out.size))
    clear hg SS PP Xx Xy Xz BZ
    go_wp2_with fail
    go_ret
    exact ⟨rfl, HKF.out⟩
end Go.Proofs.Ytjffikiebeneaaa
