/-
  Regions of the law ShareParts, each a theorem of its own.
-/
import Derived.Test.YtjffikiebeneaaaSums17
import Derived.Test.YtjffikiebeneaaaCut4
import Derived.Test.YtjffikiebeneaaaRefPa17
import Derived.Deep.RegionHeld3
namespace Go.Proofs.Ytjffikiebeneaaa
open Go.RowKit

/-- The region n of a code. -/
def findR (n : Nat) : Code → Option Code
  | .region i ops d => if i = n then some (.region i ops d) else none
  | .seq a b => match findR n a with
    | some c => some c
    | none => findR n b
  | .cond _ a b => match findR n a with
    | some c => some c
    | none => findR n b
  | .block _ c => findR n c
  | .loop c => findR n c
  | .scope c => findR n c
  | _ => none
noncomputable def code7_18 : Code := (Try.f7.body.bind (findR 18)).getD .skip
noncomputable def code7_19 : Code := (Try.f7.body.bind (findR 19)).getD .skip
noncomputable def code7_20 : Code := (Try.f7.body.bind (findR 20)).getD .skip
noncomputable def code7_21 : Code := (Try.f7.body.bind (findR 21)).getD .skip
noncomputable def code7_33 : Code := (Try.f7.body.bind (findR 33)).getD .skip
noncomputable def code7_34 : Code := (Try.f7.body.bind (findR 34)).getD .skip
set_option maxRecDepth 100000 in
set_option maxHeartbeats 4000000 in
theorem parts_r18 {v0 v1 v2 v3 v4 v5 v7 v8 v11 v12 v13 v14 v15 v16 v17 v18 v19 v20 v21 v22 v23 v24 v25 v26 v27 v28 v29 v30 v31 v32 v33 v34 v35 v36 v37 v38 v39 v40 v41 v42 v43 v44 v45 v46 v47 v48 v49 v50 v51 v52 v53 v54 v55 v56 v57 v58 v59 v60 v61 v62 v63 v64 v65 v66 v67 v68 v69 v70 v71 v72 v73 v74 v75 v76 v77 v78 v79 v80 v81 v82 v83 v84 v85 v86 v87 v88 v89 v90 v91 v92 v93 v94 v95 v96 v97 v98 v99 v100 v101 v102 v103 v104 v105 v106 v107 v108 v109 v110 v111 v112 v113 v114 v115 v116 v117 v118 v119 v120 v121 v122 v123 v124 v125 v126 v127 v128 v129 v130 v131 v132 v133 v134 v135 v136 v137 v138 v139 v140 v141 v142 v143 v144 v145 v146 v147 v148 v149 v150 v151 v152 v153 v154 v155 v156 v157 v158 v159 v160 v161 v162 v163 v164 v165 v166 v167 v168 v169 v170 v171 v172 v173 v174 v175 v176 v177 v178 v179 v180 v181 v182 v183 v184 v185 v186 v187 v188 v189 v190 v191 v192 v193 v194 v195 v196 v197 v198 v199 : Value} {i k M gp op cp : Nat} {an ad bn bd qn qd : Int} {W w0 : World} (hg0 : GrewS W w0) (hi : i < M) (hk : k < M) (hM : M ≤ 1000) (h : ovN an ad bn bd = qn ∧ ovD an ad bn bd = qd ∧ ovE an ad bn bd = 0) (A1 : At w0 ⟨gp, op + i * 2, none⟩ (.int .i64 an)) (A2 : At w0 ⟨gp, op + i * 2 + 1, none⟩ (.int .i64 ad)) (B1 : At w0 ⟨gp, op + k * 2, none⟩ (.int .i64 bn)) (B2 : At w0 ⟨gp, op + k * 2 + 1, none⟩ (.int .i64 bd)) {Q : Exit → Act → World → Prop}
    (hexit : ∀ (u11 u68 u69 u70 u71 u72 u73 u74 u75 u76 u77 u78 u79 : Value) (w' : World), ((∃ B : Nat, u11 = .pointer (some ⟨B, 0, none⟩) ∧ C2 w' B (.int .i64 qn) (.int .i64 qd)) ∧ GrewS W w') → Q .normal ⟨#[v0, v1, v2, v3, v4, v5, .slice (some ⟨gp, op, none⟩) M cp, v7, v8, .int .i64 (i : Int), .int .i64 (k : Int), u11, .int .i64 0, v13, v14, v15, v16, v17, v18, v19, v20, v21, v22, v23, v24, v25, v26, v27, v28, v29, v30, v31, v32, v33, v34, v35, v36, v37, v38, v39, v40, v41, v42, v43, v44, v45, v46, v47, v48, v49, v50, v51, v52, v53, v54, v55, v56, v57, v58, v59, v60, v61, v62, v63, v64, v65, v66, v67, u68, u69, u70, u71, u72, u73, u74, u75, u76, u77, u78, u79, v80, v81, v82, v83, v84, v85, v86, v87, v88, v89, v90, v91, v92, v93, v94, v95, v96, v97, v98, v99, v100, v101, v102, v103, v104, v105, v106, v107, v108, v109, v110, v111, v112, v113, v114, v115, v116, v117, v118, v119, v120, v121, v122, v123, v124, v125, v126, v127, v128, v129, v130, v131, v132, v133, v134, v135, v136, v137, v138, v139, v140, v141, v142, v143, v144, v145, v146, v147, v148, v149, v150, v151, v152, v153, v154, v155, v156, v157, v158, v159, v160, v161, v162, v163, v164, v165, v166, v167, v168, v169, v170, v171, v172, v173, v174, v175, v176, v177, v178, v179, v180, v181, v182, v183, v184, v185, v186, v187, v188, v189, v190, v191, v192, v193, v194, v195, v196, v197, v198, v199], []⟩ w') :
    Code.wp Try.prog code7_18 Q ⟨#[v0, v1, v2, v3, v4, v5, .slice (some ⟨gp, op, none⟩) M cp, v7, v8, .int .i64 (i : Int), .int .i64 (k : Int), v11, v12, v13, v14, v15, v16, v17, v18, v19, v20, v21, v22, v23, v24, v25, v26, v27, v28, v29, v30, v31, v32, v33, v34, v35, v36, v37, v38, v39, v40, v41, v42, v43, v44, v45, v46, v47, v48, v49, v50, v51, v52, v53, v54, v55, v56, v57, v58, v59, v60, v61, v62, v63, v64, v65, v66, v67, v68, v69, v70, v71, v72, v73, v74, v75, v76, v77, v78, v79, v80, v81, v82, v83, v84, v85, v86, v87, v88, v89, v90, v91, v92, v93, v94, v95, v96, v97, v98, v99, v100, v101, v102, v103, v104, v105, v106, v107, v108, v109, v110, v111, v112, v113, v114, v115, v116, v117, v118, v119, v120, v121, v122, v123, v124, v125, v126, v127, v128, v129, v130, v131, v132, v133, v134, v135, v136, v137, v138, v139, v140, v141, v142, v143, v144, v145, v146, v147, v148, v149, v150, v151, v152, v153, v154, v155, v156, v157, v158, v159, v160, v161, v162, v163, v164, v165, v166, v167, v168, v169, v170, v171, v172, v173, v174, v175, v176, v177, v178, v179, v180, v181, v182, v183, v184, v185, v186, v187, v188, v189, v190, v191, v192, v193, v194, v195, v196, v197, v198, v199], []⟩ w0 := by
  conv => arg 2; whnf
  refine wp_region_noPanic ?_
  have hii : (i : Int) < M := by omega
  have hkk : (k : Int) < M := by omega
  have hi0 : (0 : Int) ≤ i := by omega
  have hk0 : (0 : Int) ≤ k := by omega
  have hiw : IntKind.i64.wrap (i : Int) = i := by rw [IntKind.wrap_i64]; omega
  have hkw : IntKind.i64.wrap (k : Int) = k := by rw [IntKind.wrap_i64]; omega
  have H' := fun w => over_any an ad bn bd w
  rw [h.1, h.2.1, h.2.2] at H'
  have H := fun w => Lib.hid (H' w)
  have hg := Lib.hid hg0
  clear h H' hi hk
  refine wp_region_anyN (fun w' => w'.cell? ⟨gp, op + i * 2, none⟩ = some (.int .i64 an) ∧ w'.cell? ⟨gp, op + i * 2 + 1, none⟩ = some (.int .i64 ad) ∧ w'.cell? ⟨gp, op + k * 2, none⟩ = some (.int .i64 bn) ∧ w'.cell? ⟨gp, op + k * 2 + 1, none⟩ = some (.int .i64 bd)) 14 (by kernel_rfl) ?_
  replace A1 := A1.drew
  replace A2 := A2.drew
  replace B1 := B1.drew
  replace B2 := B2.drew
  replace hg := Lib.hid hg.out.drew
  generalize w0.drew = w0 at *
  have hS : w0.cell? ⟨gp, op + i * 2, none⟩ = some (.int .i64 an) ∧ w0.cell? ⟨gp, op + i * 2 + 1, none⟩ = some (.int .i64 ad) ∧ w0.cell? ⟨gp, op + k * 2, none⟩ = some (.int .i64 bn) ∧ w0.cell? ⟨gp, op + k * 2 + 1, none⟩ = some (.int .i64 bd) := ⟨A1.1, A2.1, B1.1, B2.1⟩
  refine anyN_take 0 (v := ?_) rfl (by kernel_rfl) (by kernel_rfl) (by kernel_rfl) (by kernel_rfl) (by kernel_rfl) (fun _ _ _ h => h) (Or.inl ⟨by rfl, ?_⟩) (by assumption) ?_
  rotate_left
  · intro w hSw
    obtain ⟨_, _, _, _⟩ := hSw
    go_simp
    try with_reducible rfl
  simp only [Act.put, List.setIfInBounds_toArray, List.set_cons_zero, List.set_cons_succ]
  refine anyN_take 1 (v := ?_) rfl (by kernel_rfl) (by kernel_rfl) (by kernel_rfl) (by kernel_rfl) (by kernel_rfl) (fun _ _ _ h => h) (Or.inl ⟨by rfl, ?_⟩) (by assumption) ?_
  rotate_left
  · intro w hSw
    obtain ⟨_, _, _, _⟩ := hSw
    go_simp
    try with_reducible rfl
  simp only [Act.put, List.setIfInBounds_toArray, List.set_cons_zero, List.set_cons_succ]
  refine anyN_take 2 (v := ?_) rfl (by kernel_rfl) (by kernel_rfl) (by kernel_rfl) (by kernel_rfl) (by kernel_rfl) (fun _ _ _ h => h) (Or.inl ⟨by rfl, ?_⟩) (by assumption) ?_
  rotate_left
  · intro w hSw
    obtain ⟨_, _, _, _⟩ := hSw
    go_simp
    try with_reducible rfl
  simp only [Act.put, List.setIfInBounds_toArray, List.set_cons_zero, List.set_cons_succ]
  refine anyN_take 3 (v := ?_) rfl (by kernel_rfl) (by kernel_rfl) (by kernel_rfl) (by kernel_rfl) (by kernel_rfl) (fun _ _ _ h => h) (Or.inl ⟨by rfl, ?_⟩) (by assumption) ?_
  rotate_left
  · intro w hSw
    obtain ⟨_, _, _, _⟩ := hSw
    go_simp
    try with_reducible rfl
  simp only [Act.put, List.setIfInBounds_toArray, List.set_cons_zero, List.set_cons_succ]
  refine anyN_take 4 (v := ?_) rfl (by kernel_rfl) (by kernel_rfl) (by kernel_rfl) (by kernel_rfl) (by kernel_rfl) (fun _ _ _ h => h) (Or.inl ⟨by rfl, ?_⟩) (by assumption) ?_
  rotate_left
  · intro w hSw
    obtain ⟨_, _, _, _⟩ := hSw
    go_simp
    try with_reducible rfl
  simp only [Act.put, List.setIfInBounds_toArray, List.set_cons_zero, List.set_cons_succ]
  refine anyN_take 5 (v := ?_) rfl (by kernel_rfl) (by kernel_rfl) (by kernel_rfl) (by kernel_rfl) (by kernel_rfl) (fun _ _ _ h => h) (Or.inl ⟨by rfl, ?_⟩) (by assumption) ?_
  rotate_left
  · intro w hSw
    obtain ⟨_, _, _, _⟩ := hSw
    go_simp
    try with_reducible rfl
  simp only [Act.put, List.setIfInBounds_toArray, List.set_cons_zero, List.set_cons_succ]
  refine anyN_take 6 (v := ?_) rfl (by kernel_rfl) (by kernel_rfl) (by kernel_rfl) (by kernel_rfl) (by kernel_rfl) (fun _ _ _ h => h) (Or.inl ⟨by rfl, ?_⟩) (by assumption) ?_
  rotate_left
  · intro w hSw
    obtain ⟨_, _, _, _⟩ := hSw
    go_simp
    try with_reducible rfl
  simp only [Act.put, List.setIfInBounds_toArray, List.set_cons_zero, List.set_cons_succ]
  refine anyN_take 7 (v := ?_) rfl (by kernel_rfl) (by kernel_rfl) (by kernel_rfl) (by kernel_rfl) (by kernel_rfl) (fun _ _ _ h => h) (Or.inl ⟨by rfl, ?_⟩) (by assumption) ?_
  rotate_left
  · intro w hSw
    obtain ⟨_, _, _, _⟩ := hSw
    go_simp
    try with_reducible rfl
  simp only [Act.put, List.setIfInBounds_toArray, List.set_cons_zero, List.set_cons_succ]
  refine anyN_two 8 12 rfl rfl (by kernel_rfl) rfl rfl ?_ ?_
  · go_simp
    (with_reducible refine (H _).out.mono ?_)
    rintro e wv1 ⟨rfl, hg1⟩
    have k1 := hg1.kp
    replace A1 := A1.kp k1
    replace A2 := A2.kp k1
    replace B1 := B1.kp k1
    replace B2 := B2.kp k1
    replace hg := Lib.hid (hg.out.trans hg1)
    clear k1 hg1
    dsimp only
    refine and_keep ⟨A1.1, A2.1, B1.1, B2.1⟩ (fun hS => ?_)
    refine anyN_take 9 (v := ?_) rfl (by kernel_rfl) (by kernel_rfl) (by kernel_rfl) (by kernel_rfl) (by kernel_rfl) (fun _ _ _ h => h) (Or.inl ⟨by rfl, ?_⟩) (by assumption) ?_
    rotate_left
    · intro w hSw
      obtain ⟨_, _, _, _⟩ := hSw
      go_simp
      try with_reducible rfl
    simp only [Act.put, List.setIfInBounds_toArray, List.set_cons_zero, List.set_cons_succ]
    refine anyN_take 10 (v := ?_) rfl (by kernel_rfl) (by kernel_rfl) (by kernel_rfl) (by kernel_rfl) (by kernel_rfl) (fun _ _ _ h => h) (Or.inl ⟨by rfl, ?_⟩) (by assumption) ?_
    rotate_left
    · intro w hSw
      obtain ⟨_, _, _, _⟩ := hSw
      go_simp
      try with_reducible rfl
    simp only [Act.put, List.setIfInBounds_toArray, List.set_cons_zero, List.set_cons_succ]
    refine anyN_take 11 (v := ?_) rfl (by kernel_rfl) (by kernel_rfl) (by kernel_rfl) (by kernel_rfl) (by kernel_rfl) (fun _ _ _ h => h) (Or.inl ⟨by rfl, ?_⟩) (by assumption) ?_
    rotate_left
    · intro w hSw
      obtain ⟨_, _, _, _⟩ := hSw
      go_simp
      try with_reducible rfl
    simp only [Act.put, List.setIfInBounds_toArray, List.set_cons_zero, List.set_cons_succ]
    refine anyN_one 12 rfl (by kernel_rfl) rfl ?_
    go_simp
    have ne_Z_A1 : wv1.heap.size ≠ gp := Nat.ne_of_gt A1.2
    have ne_Z_A2 : wv1.heap.size ≠ gp := Nat.ne_of_gt A2.2
    have ne_Z_B1 : wv1.heap.size ≠ gp := Nat.ne_of_gt B1.2
    have ne_Z_B2 : wv1.heap.size ≠ gp := Nat.ne_of_gt B2.2
    have le_Z : W.heap.size ≤ wv1.heap.size := hg.out.kp.size
    have Z := C2.new wv1 (.int .i64 0) (.int .i64 0) 25
    have FZ := Fz.new wv1 #[.int .i64 0, .int .i64 0] 25
    replace A1 := A1.alloc (.cells #[.int .i64 0, .int .i64 0] 25)
    replace A2 := A2.alloc (.cells #[.int .i64 0, .int .i64 0] 25)
    replace B1 := B1.alloc (.cells #[.int .i64 0, .int .i64 0] 25)
    replace B2 := B2.alloc (.cells #[.int .i64 0, .int .i64 0] 25)
    replace hg := Lib.hid (hg.out.alloc (.cells #[.int .i64 0, .int .i64 0] 25))
    generalize wv1.alloc (.cells #[.int .i64 0, .int .i64 0] 25) = wa2 at *
    generalize wv1.heap.size = bZ at *
    refine and_keep ⟨A1.1, A2.1, B1.1, B2.1⟩ (fun hS => ?_)
    have Z_0 := Z.c0
    have Z_1 := Z.c1
    have FZ_2 := FZ.2
    refine anyN_one 13 rfl (by kernel_rfl) rfl ?_
    go_simp
    clear Z_0 Z_1 FZ_2
    replace A1 := A1.far2 (B := bZ) ne_Z_A1 (.int .i64 qn) (.int .i64 qd)
    replace A2 := A2.far2 (B := bZ) ne_Z_A2 (.int .i64 qn) (.int .i64 qd)
    replace B1 := B1.far2 (B := bZ) ne_Z_B1 (.int .i64 qn) (.int .i64 qd)
    replace B2 := B2.far2 (B := bZ) ne_Z_B2 (.int .i64 qn) (.int .i64 qd)
    replace Z := Z.set (.int .i64 qn) (.int .i64 qd)
    replace FZ := (FZ.set ⟨bZ, 0, none⟩ (.int .i64 qn)).set ⟨bZ, 1, none⟩ (.int .i64 qd)
    replace hg := Lib.hid (hg.out.set2 (B := bZ) le_Z (.int .i64 qn) (.int .i64 qd))
    generalize World.setCell _ _ _ = ws3 at *
    try refine and_keep ⟨A1.1, A2.1, B1.1, B2.1⟩ (fun hS => ?_)
    refine anyN_one 14 rfl (by kernel_rfl) rfl ?_
    go_simp
    refine anyN_done (by kernel_rfl) ?_
    clear hS
    refine NoPanic.normal (hexit _ _ _ _ _ _ _ _ _ _ _ _ _ _ ?_)
    exact ⟨⟨_, rfl, Z⟩, hg.out⟩
  · go_simp
    have ne_Z_A1 : w0.heap.size ≠ gp := Nat.ne_of_gt A1.2
    have ne_Z_A2 : w0.heap.size ≠ gp := Nat.ne_of_gt A2.2
    have ne_Z_B1 : w0.heap.size ≠ gp := Nat.ne_of_gt B1.2
    have ne_Z_B2 : w0.heap.size ≠ gp := Nat.ne_of_gt B2.2
    have le_Z : W.heap.size ≤ w0.heap.size := hg.out.kp.size
    have Z := C2.new w0 (.int .i64 0) (.int .i64 0) 25
    have FZ := Fz.new w0 #[.int .i64 0, .int .i64 0] 25
    replace A1 := A1.alloc (.cells #[.int .i64 0, .int .i64 0] 25)
    replace A2 := A2.alloc (.cells #[.int .i64 0, .int .i64 0] 25)
    replace B1 := B1.alloc (.cells #[.int .i64 0, .int .i64 0] 25)
    replace B2 := B2.alloc (.cells #[.int .i64 0, .int .i64 0] 25)
    replace hg := Lib.hid (hg.out.alloc (.cells #[.int .i64 0, .int .i64 0] 25))
    generalize w0.alloc (.cells #[.int .i64 0, .int .i64 0] 25) = wa4 at *
    generalize w0.heap.size = bZ at *
    refine and_keep ⟨A1.1, A2.1, B1.1, B2.1⟩ (fun hS => ?_)
    refine anyN_one 8 rfl (by kernel_rfl) rfl ?_
    go_simp
    (with_reducible refine (H _).out.mono ?_)
    rintro e wv5 ⟨rfl, hg1⟩
    have k1 := hg1.kp
    replace A1 := A1.kp k1
    replace A2 := A2.kp k1
    replace B1 := B1.kp k1
    replace B2 := B2.kp k1
    replace Z := Z.kp k1
    replace FZ := FZ.kp k1
    replace hg := Lib.hid (hg.out.trans hg1)
    clear k1 hg1
    dsimp only
    refine and_keep ⟨A1.1, A2.1, B1.1, B2.1⟩ (fun hS => ?_)
    refine anyN_take 9 (v := ?_) rfl (by kernel_rfl) (by kernel_rfl) (by kernel_rfl) (by kernel_rfl) (by kernel_rfl) (fun _ _ _ h => h) (Or.inl ⟨by rfl, ?_⟩) (by assumption) ?_
    rotate_left
    · intro w hSw
      obtain ⟨_, _, _, _⟩ := hSw
      go_simp
      try with_reducible rfl
    simp only [Act.put, List.setIfInBounds_toArray, List.set_cons_zero, List.set_cons_succ]
    refine anyN_take 10 (v := ?_) rfl (by kernel_rfl) (by kernel_rfl) (by kernel_rfl) (by kernel_rfl) (by kernel_rfl) (fun _ _ _ h => h) (Or.inl ⟨by rfl, ?_⟩) (by assumption) ?_
    rotate_left
    · intro w hSw
      obtain ⟨_, _, _, _⟩ := hSw
      go_simp
      try with_reducible rfl
    simp only [Act.put, List.setIfInBounds_toArray, List.set_cons_zero, List.set_cons_succ]
    refine anyN_take 11 (v := ?_) rfl (by kernel_rfl) (by kernel_rfl) (by kernel_rfl) (by kernel_rfl) (by kernel_rfl) (fun _ _ _ h => h) (Or.inl ⟨by rfl, ?_⟩) (by assumption) ?_
    rotate_left
    · intro w hSw
      obtain ⟨_, _, _, _⟩ := hSw
      go_simp
      try with_reducible rfl
    simp only [Act.put, List.setIfInBounds_toArray, List.set_cons_zero, List.set_cons_succ]
    have Z_0 := Z.c0
    have Z_1 := Z.c1
    have FZ_2 := FZ.2
    refine anyN_one 13 rfl (by kernel_rfl) rfl ?_
    go_simp
    clear Z_0 Z_1 FZ_2
    replace A1 := A1.far2 (B := bZ) ne_Z_A1 (.int .i64 qn) (.int .i64 qd)
    replace A2 := A2.far2 (B := bZ) ne_Z_A2 (.int .i64 qn) (.int .i64 qd)
    replace B1 := B1.far2 (B := bZ) ne_Z_B1 (.int .i64 qn) (.int .i64 qd)
    replace B2 := B2.far2 (B := bZ) ne_Z_B2 (.int .i64 qn) (.int .i64 qd)
    replace Z := Z.set (.int .i64 qn) (.int .i64 qd)
    replace FZ := (FZ.set ⟨bZ, 0, none⟩ (.int .i64 qn)).set ⟨bZ, 1, none⟩ (.int .i64 qd)
    replace hg := Lib.hid (hg.out.set2 (B := bZ) le_Z (.int .i64 qn) (.int .i64 qd))
    generalize World.setCell _ _ _ = ws6 at *
    try refine and_keep ⟨A1.1, A2.1, B1.1, B2.1⟩ (fun hS => ?_)
    refine anyN_one 14 rfl (by kernel_rfl) rfl ?_
    go_simp
    refine anyN_done (by kernel_rfl) ?_
    clear hS
    refine NoPanic.normal (hexit _ _ _ _ _ _ _ _ _ _ _ _ _ _ ?_)
    exact ⟨⟨_, rfl, Z⟩, hg.out⟩

set_option maxRecDepth 100000 in
set_option maxHeartbeats 4000000 in
theorem parts_r19 {v0 v1 v2 v3 v4 v6 v7 v8 v11 v12 v13 v14 v15 v16 v17 v18 v19 v20 v21 v22 v23 v24 v25 v26 v27 v28 v29 v30 v31 v32 v33 v34 v35 v36 v37 v38 v39 v40 v41 v42 v43 v44 v45 v46 v47 v48 v49 v50 v51 v52 v53 v54 v55 v56 v57 v58 v59 v60 v61 v62 v63 v64 v65 v66 v67 v68 v69 v70 v71 v72 v73 v74 v75 v76 v77 v78 v79 v80 v81 v82 v83 v84 v85 v86 v87 v88 v89 v90 v91 v92 v93 v94 v95 v96 v97 v98 v99 v100 v101 v102 v103 v104 v105 v106 v107 v108 v109 v110 v111 v112 v113 v114 v115 v116 v117 v118 v119 v120 v121 v122 v123 v124 v125 v126 v127 v128 v129 v130 v131 v132 v133 v134 v135 v136 v137 v138 v139 v140 v141 v142 v143 v144 v145 v146 v147 v148 v149 v150 v151 v152 v153 v154 v155 v156 v157 v158 v159 v160 v161 v162 v163 v164 v165 v166 v167 v168 v169 v170 v171 v172 v173 v174 v175 v176 v177 v178 v179 v180 v181 v182 v183 v184 v185 v186 v187 v188 v189 v190 v191 v192 v193 v194 v195 v196 v197 v198 v199 : Value} {i k M ga oa ca : Nat} {a b qn qd : Int} {W w0 : World} (hg0 : GrewS W w0) (hi : i < M) (hk : k < M) (hM : M ≤ 1000) (ha : a ≤ 200) (hb : b ≤ 200) (h : ofN a b = qn ∧ ofD a b = qd ∧ ofE a b = 0) (A1 : At w0 ⟨ga, oa + i, none⟩ (.int .i64 a)) (B1 : At w0 ⟨ga, oa + k, none⟩ (.int .i64 b)) {Q : Exit → Act → World → Prop}
    (hexit : ∀ (u13 u80 u81 u82 u83 u84 u85 u86 u87 u88 u89 u90 u91 : Value) (w' : World), ((∃ B : Nat, u13 = .pointer (some ⟨B, 0, none⟩) ∧ C2 w' B (.int .i64 qn) (.int .i64 qd)) ∧ GrewS W w') → Q .normal ⟨#[v0, v1, v2, v3, v4, .slice (some ⟨ga, oa, none⟩) M ca, v6, v7, v8, .int .i64 (i : Int), .int .i64 (k : Int), v11, v12, u13, .int .i64 0, v15, v16, v17, v18, v19, v20, v21, v22, v23, v24, v25, v26, v27, v28, v29, v30, v31, v32, v33, v34, v35, v36, v37, v38, v39, v40, v41, v42, v43, v44, v45, v46, v47, v48, v49, v50, v51, v52, v53, v54, v55, v56, v57, v58, v59, v60, v61, v62, v63, v64, v65, v66, v67, v68, v69, v70, v71, v72, v73, v74, v75, v76, v77, v78, v79, u80, u81, u82, u83, u84, u85, u86, u87, u88, u89, u90, u91, v92, v93, v94, v95, v96, v97, v98, v99, v100, v101, v102, v103, v104, v105, v106, v107, v108, v109, v110, v111, v112, v113, v114, v115, v116, v117, v118, v119, v120, v121, v122, v123, v124, v125, v126, v127, v128, v129, v130, v131, v132, v133, v134, v135, v136, v137, v138, v139, v140, v141, v142, v143, v144, v145, v146, v147, v148, v149, v150, v151, v152, v153, v154, v155, v156, v157, v158, v159, v160, v161, v162, v163, v164, v165, v166, v167, v168, v169, v170, v171, v172, v173, v174, v175, v176, v177, v178, v179, v180, v181, v182, v183, v184, v185, v186, v187, v188, v189, v190, v191, v192, v193, v194, v195, v196, v197, v198, v199], []⟩ w') :
    Code.wp Try.prog code7_19 Q ⟨#[v0, v1, v2, v3, v4, .slice (some ⟨ga, oa, none⟩) M ca, v6, v7, v8, .int .i64 (i : Int), .int .i64 (k : Int), v11, v12, v13, v14, v15, v16, v17, v18, v19, v20, v21, v22, v23, v24, v25, v26, v27, v28, v29, v30, v31, v32, v33, v34, v35, v36, v37, v38, v39, v40, v41, v42, v43, v44, v45, v46, v47, v48, v49, v50, v51, v52, v53, v54, v55, v56, v57, v58, v59, v60, v61, v62, v63, v64, v65, v66, v67, v68, v69, v70, v71, v72, v73, v74, v75, v76, v77, v78, v79, v80, v81, v82, v83, v84, v85, v86, v87, v88, v89, v90, v91, v92, v93, v94, v95, v96, v97, v98, v99, v100, v101, v102, v103, v104, v105, v106, v107, v108, v109, v110, v111, v112, v113, v114, v115, v116, v117, v118, v119, v120, v121, v122, v123, v124, v125, v126, v127, v128, v129, v130, v131, v132, v133, v134, v135, v136, v137, v138, v139, v140, v141, v142, v143, v144, v145, v146, v147, v148, v149, v150, v151, v152, v153, v154, v155, v156, v157, v158, v159, v160, v161, v162, v163, v164, v165, v166, v167, v168, v169, v170, v171, v172, v173, v174, v175, v176, v177, v178, v179, v180, v181, v182, v183, v184, v185, v186, v187, v188, v189, v190, v191, v192, v193, v194, v195, v196, v197, v198, v199], []⟩ w0 := by
  conv => arg 2; whnf
  refine wp_region_noPanic ?_
  have hii : (i : Int) < M := by omega
  have hkk : (k : Int) < M := by omega
  have hi0 : (0 : Int) ≤ i := by omega
  have hk0 : (0 : Int) ≤ k := by omega
  have hiw : IntKind.i64.wrap (i : Int) = i := by rw [IntKind.wrap_i64]; omega
  have hkw : IntKind.i64.wrap (k : Int) = k := by rw [IntKind.wrap_i64]; omega
  have H' := fun w => of_any (n := a) (d := b) w (by omega) (by omega)
  rw [h.1, h.2.1, h.2.2] at H'
  have H := fun w => Lib.hid (H' w)
  have hg := Lib.hid hg0
  clear h H' hi hk
  refine wp_region_anyN (fun w' => w'.cell? ⟨ga, oa + i, none⟩ = some (.int .i64 a) ∧ w'.cell? ⟨ga, oa + k, none⟩ = some (.int .i64 b)) 14 (by kernel_rfl) ?_
  replace A1 := A1.drew
  replace B1 := B1.drew
  replace hg := Lib.hid hg.out.drew
  generalize w0.drew = w0 at *
  have hS : w0.cell? ⟨ga, oa + i, none⟩ = some (.int .i64 a) ∧ w0.cell? ⟨ga, oa + k, none⟩ = some (.int .i64 b) := ⟨A1.1, B1.1⟩
  refine anyN_take 0 (v := ?_) rfl (by kernel_rfl) (by kernel_rfl) (by kernel_rfl) (by kernel_rfl) (by kernel_rfl) (fun _ _ _ h => h) (Or.inl ⟨by rfl, ?_⟩) (by assumption) ?_
  rotate_left
  · intro w hSw
    obtain ⟨_, _⟩ := hSw
    go_simp
    try with_reducible rfl
  simp only [Act.put, List.setIfInBounds_toArray, List.set_cons_zero, List.set_cons_succ]
  refine anyN_take 1 (v := ?_) rfl (by kernel_rfl) (by kernel_rfl) (by kernel_rfl) (by kernel_rfl) (by kernel_rfl) (fun _ _ _ h => h) (Or.inl ⟨by rfl, ?_⟩) (by assumption) ?_
  rotate_left
  · intro w hSw
    obtain ⟨_, _⟩ := hSw
    go_simp
    try with_reducible rfl
  simp only [Act.put, List.setIfInBounds_toArray, List.set_cons_zero, List.set_cons_succ]
  refine anyN_take 2 (v := ?_) rfl (by kernel_rfl) (by kernel_rfl) (by kernel_rfl) (by kernel_rfl) (by kernel_rfl) (fun _ _ _ h => h) (Or.inl ⟨by rfl, ?_⟩) (by assumption) ?_
  rotate_left
  · intro w hSw
    obtain ⟨_, _⟩ := hSw
    go_simp
    try with_reducible rfl
  simp only [Act.put, List.setIfInBounds_toArray, List.set_cons_zero, List.set_cons_succ]
  refine anyN_take 3 (v := ?_) rfl (by kernel_rfl) (by kernel_rfl) (by kernel_rfl) (by kernel_rfl) (by kernel_rfl) (fun _ _ _ h => h) (Or.inl ⟨by rfl, ?_⟩) (by assumption) ?_
  rotate_left
  · intro w hSw
    obtain ⟨_, _⟩ := hSw
    go_simp
    try with_reducible rfl
  simp only [Act.put, List.setIfInBounds_toArray, List.set_cons_zero, List.set_cons_succ]
  refine anyN_take 4 (v := ?_) rfl (by kernel_rfl) (by kernel_rfl) (by kernel_rfl) (by kernel_rfl) (by kernel_rfl) (fun _ _ _ h => h) (Or.inl ⟨by rfl, ?_⟩) (by assumption) ?_
  rotate_left
  · intro w hSw
    obtain ⟨_, _⟩ := hSw
    go_simp
    try with_reducible rfl
  simp only [Act.put, List.setIfInBounds_toArray, List.set_cons_zero, List.set_cons_succ]
  refine anyN_take 5 (v := ?_) rfl (by kernel_rfl) (by kernel_rfl) (by kernel_rfl) (by kernel_rfl) (by kernel_rfl) (fun _ _ _ h => h) (Or.inl ⟨by rfl, ?_⟩) (by assumption) ?_
  rotate_left
  · intro w hSw
    obtain ⟨_, _⟩ := hSw
    go_simp
    try with_reducible rfl
  simp only [Act.put, List.setIfInBounds_toArray, List.set_cons_zero, List.set_cons_succ]
  refine anyN_take 6 (v := ?_) rfl (by kernel_rfl) (by kernel_rfl) (by kernel_rfl) (by kernel_rfl) (by kernel_rfl) (fun _ _ _ h => h) (Or.inl ⟨by rfl, ?_⟩) (by assumption) ?_
  rotate_left
  · intro w hSw
    obtain ⟨_, _⟩ := hSw
    go_simp
    try with_reducible rfl
  simp only [Act.put, List.setIfInBounds_toArray, List.set_cons_zero, List.set_cons_succ]
  refine anyN_take 7 (v := ?_) rfl (by kernel_rfl) (by kernel_rfl) (by kernel_rfl) (by kernel_rfl) (by kernel_rfl) (fun _ _ _ h => h) (Or.inl ⟨by rfl, ?_⟩) (by assumption) ?_
  rotate_left
  · intro w hSw
    obtain ⟨_, _⟩ := hSw
    go_simp
    try with_reducible rfl
  simp only [Act.put, List.setIfInBounds_toArray, List.set_cons_zero, List.set_cons_succ]
  refine anyN_two 8 12 rfl rfl (by kernel_rfl) rfl rfl ?_ ?_
  · go_simp
    (with_reducible refine (H _).out.mono ?_)
    rintro e wv1 ⟨rfl, hg1⟩
    have k1 := hg1.kp
    replace A1 := A1.kp k1
    replace B1 := B1.kp k1
    replace hg := Lib.hid (hg.out.trans hg1)
    clear k1 hg1
    dsimp only
    refine and_keep ⟨A1.1, B1.1⟩ (fun hS => ?_)
    refine anyN_take 9 (v := ?_) rfl (by kernel_rfl) (by kernel_rfl) (by kernel_rfl) (by kernel_rfl) (by kernel_rfl) (fun _ _ _ h => h) (Or.inl ⟨by rfl, ?_⟩) (by assumption) ?_
    rotate_left
    · intro w hSw
      obtain ⟨_, _⟩ := hSw
      go_simp
      try with_reducible rfl
    simp only [Act.put, List.setIfInBounds_toArray, List.set_cons_zero, List.set_cons_succ]
    refine anyN_take 10 (v := ?_) rfl (by kernel_rfl) (by kernel_rfl) (by kernel_rfl) (by kernel_rfl) (by kernel_rfl) (fun _ _ _ h => h) (Or.inl ⟨by rfl, ?_⟩) (by assumption) ?_
    rotate_left
    · intro w hSw
      obtain ⟨_, _⟩ := hSw
      go_simp
      try with_reducible rfl
    simp only [Act.put, List.setIfInBounds_toArray, List.set_cons_zero, List.set_cons_succ]
    refine anyN_take 11 (v := ?_) rfl (by kernel_rfl) (by kernel_rfl) (by kernel_rfl) (by kernel_rfl) (by kernel_rfl) (fun _ _ _ h => h) (Or.inl ⟨by rfl, ?_⟩) (by assumption) ?_
    rotate_left
    · intro w hSw
      obtain ⟨_, _⟩ := hSw
      go_simp
      try with_reducible rfl
    simp only [Act.put, List.setIfInBounds_toArray, List.set_cons_zero, List.set_cons_succ]
    refine anyN_one 12 rfl (by kernel_rfl) rfl ?_
    go_simp
    have ne_Z_A1 : wv1.heap.size ≠ ga := Nat.ne_of_gt A1.2
    have ne_Z_B1 : wv1.heap.size ≠ ga := Nat.ne_of_gt B1.2
    have le_Z : W.heap.size ≤ wv1.heap.size := hg.out.kp.size
    have Z := C2.new wv1 (.int .i64 0) (.int .i64 0) 25
    have FZ := Fz.new wv1 #[.int .i64 0, .int .i64 0] 25
    replace A1 := A1.alloc (.cells #[.int .i64 0, .int .i64 0] 25)
    replace B1 := B1.alloc (.cells #[.int .i64 0, .int .i64 0] 25)
    replace hg := Lib.hid (hg.out.alloc (.cells #[.int .i64 0, .int .i64 0] 25))
    generalize wv1.alloc (.cells #[.int .i64 0, .int .i64 0] 25) = wa2 at *
    generalize wv1.heap.size = bZ at *
    refine and_keep ⟨A1.1, B1.1⟩ (fun hS => ?_)
    have Z_0 := Z.c0
    have Z_1 := Z.c1
    have FZ_2 := FZ.2
    refine anyN_one 13 rfl (by kernel_rfl) rfl ?_
    go_simp
    clear Z_0 Z_1 FZ_2
    replace A1 := A1.far2 (B := bZ) ne_Z_A1 (.int .i64 qn) (.int .i64 qd)
    replace B1 := B1.far2 (B := bZ) ne_Z_B1 (.int .i64 qn) (.int .i64 qd)
    replace Z := Z.set (.int .i64 qn) (.int .i64 qd)
    replace FZ := (FZ.set ⟨bZ, 0, none⟩ (.int .i64 qn)).set ⟨bZ, 1, none⟩ (.int .i64 qd)
    replace hg := Lib.hid (hg.out.set2 (B := bZ) le_Z (.int .i64 qn) (.int .i64 qd))
    generalize World.setCell _ _ _ = ws3 at *
    try refine and_keep ⟨A1.1, B1.1⟩ (fun hS => ?_)
    refine anyN_one 14 rfl (by kernel_rfl) rfl ?_
    go_simp
    refine anyN_done (by kernel_rfl) ?_
    clear hS
    refine NoPanic.normal (hexit _ _ _ _ _ _ _ _ _ _ _ _ _ _ ?_)
    exact ⟨⟨_, rfl, Z⟩, hg.out⟩
  · go_simp
    have ne_Z_A1 : w0.heap.size ≠ ga := Nat.ne_of_gt A1.2
    have ne_Z_B1 : w0.heap.size ≠ ga := Nat.ne_of_gt B1.2
    have le_Z : W.heap.size ≤ w0.heap.size := hg.out.kp.size
    have Z := C2.new w0 (.int .i64 0) (.int .i64 0) 25
    have FZ := Fz.new w0 #[.int .i64 0, .int .i64 0] 25
    replace A1 := A1.alloc (.cells #[.int .i64 0, .int .i64 0] 25)
    replace B1 := B1.alloc (.cells #[.int .i64 0, .int .i64 0] 25)
    replace hg := Lib.hid (hg.out.alloc (.cells #[.int .i64 0, .int .i64 0] 25))
    generalize w0.alloc (.cells #[.int .i64 0, .int .i64 0] 25) = wa4 at *
    generalize w0.heap.size = bZ at *
    refine and_keep ⟨A1.1, B1.1⟩ (fun hS => ?_)
    refine anyN_one 8 rfl (by kernel_rfl) rfl ?_
    go_simp
    (with_reducible refine (H _).out.mono ?_)
    rintro e wv5 ⟨rfl, hg1⟩
    have k1 := hg1.kp
    replace A1 := A1.kp k1
    replace B1 := B1.kp k1
    replace Z := Z.kp k1
    replace FZ := FZ.kp k1
    replace hg := Lib.hid (hg.out.trans hg1)
    clear k1 hg1
    dsimp only
    refine and_keep ⟨A1.1, B1.1⟩ (fun hS => ?_)
    refine anyN_take 9 (v := ?_) rfl (by kernel_rfl) (by kernel_rfl) (by kernel_rfl) (by kernel_rfl) (by kernel_rfl) (fun _ _ _ h => h) (Or.inl ⟨by rfl, ?_⟩) (by assumption) ?_
    rotate_left
    · intro w hSw
      obtain ⟨_, _⟩ := hSw
      go_simp
      try with_reducible rfl
    simp only [Act.put, List.setIfInBounds_toArray, List.set_cons_zero, List.set_cons_succ]
    refine anyN_take 10 (v := ?_) rfl (by kernel_rfl) (by kernel_rfl) (by kernel_rfl) (by kernel_rfl) (by kernel_rfl) (fun _ _ _ h => h) (Or.inl ⟨by rfl, ?_⟩) (by assumption) ?_
    rotate_left
    · intro w hSw
      obtain ⟨_, _⟩ := hSw
      go_simp
      try with_reducible rfl
    simp only [Act.put, List.setIfInBounds_toArray, List.set_cons_zero, List.set_cons_succ]
    refine anyN_take 11 (v := ?_) rfl (by kernel_rfl) (by kernel_rfl) (by kernel_rfl) (by kernel_rfl) (by kernel_rfl) (fun _ _ _ h => h) (Or.inl ⟨by rfl, ?_⟩) (by assumption) ?_
    rotate_left
    · intro w hSw
      obtain ⟨_, _⟩ := hSw
      go_simp
      try with_reducible rfl
    simp only [Act.put, List.setIfInBounds_toArray, List.set_cons_zero, List.set_cons_succ]
    have Z_0 := Z.c0
    have Z_1 := Z.c1
    have FZ_2 := FZ.2
    refine anyN_one 13 rfl (by kernel_rfl) rfl ?_
    go_simp
    clear Z_0 Z_1 FZ_2
    replace A1 := A1.far2 (B := bZ) ne_Z_A1 (.int .i64 qn) (.int .i64 qd)
    replace B1 := B1.far2 (B := bZ) ne_Z_B1 (.int .i64 qn) (.int .i64 qd)
    replace Z := Z.set (.int .i64 qn) (.int .i64 qd)
    replace FZ := (FZ.set ⟨bZ, 0, none⟩ (.int .i64 qn)).set ⟨bZ, 1, none⟩ (.int .i64 qd)
    replace hg := Lib.hid (hg.out.set2 (B := bZ) le_Z (.int .i64 qn) (.int .i64 qd))
    generalize World.setCell _ _ _ = ws6 at *
    try refine and_keep ⟨A1.1, B1.1⟩ (fun hS => ?_)
    refine anyN_one 14 rfl (by kernel_rfl) rfl ?_
    go_simp
    refine anyN_done (by kernel_rfl) ?_
    clear hS
    refine NoPanic.normal (hexit _ _ _ _ _ _ _ _ _ _ _ _ _ _ ?_)
    exact ⟨⟨_, rfl, Z⟩, hg.out⟩

set_option maxRecDepth 100000 in
set_option maxHeartbeats 4000000 in
theorem parts_r20 {v0 v1 v2 v3 v4 v5 v7 v8 v11 v12 v13 v14 v15 v16 v17 v18 v19 v20 v21 v22 v23 v24 v25 v26 v27 v28 v29 v30 v31 v32 v33 v34 v35 v36 v37 v38 v39 v40 v41 v42 v43 v44 v45 v46 v47 v48 v49 v50 v51 v52 v53 v54 v55 v56 v57 v58 v59 v60 v61 v62 v63 v64 v65 v66 v67 v68 v69 v70 v71 v72 v73 v74 v75 v76 v77 v78 v79 v80 v81 v82 v83 v84 v85 v86 v87 v88 v89 v90 v91 v92 v93 v94 v95 v96 v97 v98 v99 v100 v101 v102 v103 v104 v105 v106 v107 v108 v109 v110 v111 v112 v113 v114 v115 v116 v117 v118 v119 v120 v121 v122 v123 v124 v125 v126 v127 v128 v129 v130 v131 v132 v133 v134 v135 v136 v137 v138 v139 v140 v141 v142 v143 v144 v145 v146 v147 v148 v149 v150 v151 v152 v153 v154 v155 v156 v157 v158 v159 v160 v161 v162 v163 v164 v165 v166 v167 v168 v169 v170 v171 v172 v173 v174 v175 v176 v177 v178 v179 v180 v181 v182 v183 v184 v185 v186 v187 v188 v189 v190 v191 v192 v193 v194 v195 v196 v197 v198 v199 : Value} {i k M gp op cp : Nat} {an ad bn bd n : Int} {W w0 : World} (hg0 : GrewS W w0) (hi : i < M) (hk : k < M) (hM : M ≤ 1000) (h : cmN an ad bn bd = n ∧ cmE an ad bn bd = 0) (A1 : At w0 ⟨gp, op + i * 2, none⟩ (.int .i64 an)) (A2 : At w0 ⟨gp, op + i * 2 + 1, none⟩ (.int .i64 ad)) (B1 : At w0 ⟨gp, op + k * 2, none⟩ (.int .i64 bn)) (B2 : At w0 ⟨gp, op + k * 2 + 1, none⟩ (.int .i64 bd)) {Q : Exit → Act → World → Prop}
    (hexit : ∀ (u92 u93 u94 u95 u96 u97 u98 u99 u100 u101 u102 u103 : Value) (w' : World), GrewS W w' → Q .normal ⟨#[v0, v1, v2, v3, v4, v5, .slice (some ⟨gp, op, none⟩) M cp, v7, v8, .int .i64 (i : Int), .int .i64 (k : Int), v11, v12, v13, v14, .int .i64 n, .int .i64 0, v17, v18, v19, v20, v21, v22, v23, v24, v25, v26, v27, v28, v29, v30, v31, v32, v33, v34, v35, v36, v37, v38, v39, v40, v41, v42, v43, v44, v45, v46, v47, v48, v49, v50, v51, v52, v53, v54, v55, v56, v57, v58, v59, v60, v61, v62, v63, v64, v65, v66, v67, v68, v69, v70, v71, v72, v73, v74, v75, v76, v77, v78, v79, v80, v81, v82, v83, v84, v85, v86, v87, v88, v89, v90, v91, u92, u93, u94, u95, u96, u97, u98, u99, u100, u101, u102, u103, v104, v105, v106, v107, v108, v109, v110, v111, v112, v113, v114, v115, v116, v117, v118, v119, v120, v121, v122, v123, v124, v125, v126, v127, v128, v129, v130, v131, v132, v133, v134, v135, v136, v137, v138, v139, v140, v141, v142, v143, v144, v145, v146, v147, v148, v149, v150, v151, v152, v153, v154, v155, v156, v157, v158, v159, v160, v161, v162, v163, v164, v165, v166, v167, v168, v169, v170, v171, v172, v173, v174, v175, v176, v177, v178, v179, v180, v181, v182, v183, v184, v185, v186, v187, v188, v189, v190, v191, v192, v193, v194, v195, v196, v197, v198, v199], []⟩ w') :
    Code.wp Try.prog code7_20 Q ⟨#[v0, v1, v2, v3, v4, v5, .slice (some ⟨gp, op, none⟩) M cp, v7, v8, .int .i64 (i : Int), .int .i64 (k : Int), v11, v12, v13, v14, v15, v16, v17, v18, v19, v20, v21, v22, v23, v24, v25, v26, v27, v28, v29, v30, v31, v32, v33, v34, v35, v36, v37, v38, v39, v40, v41, v42, v43, v44, v45, v46, v47, v48, v49, v50, v51, v52, v53, v54, v55, v56, v57, v58, v59, v60, v61, v62, v63, v64, v65, v66, v67, v68, v69, v70, v71, v72, v73, v74, v75, v76, v77, v78, v79, v80, v81, v82, v83, v84, v85, v86, v87, v88, v89, v90, v91, v92, v93, v94, v95, v96, v97, v98, v99, v100, v101, v102, v103, v104, v105, v106, v107, v108, v109, v110, v111, v112, v113, v114, v115, v116, v117, v118, v119, v120, v121, v122, v123, v124, v125, v126, v127, v128, v129, v130, v131, v132, v133, v134, v135, v136, v137, v138, v139, v140, v141, v142, v143, v144, v145, v146, v147, v148, v149, v150, v151, v152, v153, v154, v155, v156, v157, v158, v159, v160, v161, v162, v163, v164, v165, v166, v167, v168, v169, v170, v171, v172, v173, v174, v175, v176, v177, v178, v179, v180, v181, v182, v183, v184, v185, v186, v187, v188, v189, v190, v191, v192, v193, v194, v195, v196, v197, v198, v199], []⟩ w0 := by
  conv => arg 2; whnf
  refine wp_region_noPanic ?_
  have hii : (i : Int) < M := by omega
  have hkk : (k : Int) < M := by omega
  have hi0 : (0 : Int) ≤ i := by omega
  have hk0 : (0 : Int) ≤ k := by omega
  have hiw : IntKind.i64.wrap (i : Int) = i := by rw [IntKind.wrap_i64]; omega
  have hkw : IntKind.i64.wrap (k : Int) = k := by rw [IntKind.wrap_i64]; omega
  have H' := fun w => cmp_any an ad bn bd w
  rw [h.1, h.2] at H'
  have H := fun w => Lib.hid (H' w)
  have hg := Lib.hid hg0
  clear h H' hi hk
  refine wp_region_anyN (fun w' => w'.cell? ⟨gp, op + i * 2, none⟩ = some (.int .i64 an) ∧ w'.cell? ⟨gp, op + i * 2 + 1, none⟩ = some (.int .i64 ad) ∧ w'.cell? ⟨gp, op + k * 2, none⟩ = some (.int .i64 bn) ∧ w'.cell? ⟨gp, op + k * 2 + 1, none⟩ = some (.int .i64 bd)) 13 (by kernel_rfl) ?_
  replace A1 := A1.drew
  replace A2 := A2.drew
  replace B1 := B1.drew
  replace B2 := B2.drew
  replace hg := Lib.hid hg.out.drew
  generalize w0.drew = w0 at *
  have hS : w0.cell? ⟨gp, op + i * 2, none⟩ = some (.int .i64 an) ∧ w0.cell? ⟨gp, op + i * 2 + 1, none⟩ = some (.int .i64 ad) ∧ w0.cell? ⟨gp, op + k * 2, none⟩ = some (.int .i64 bn) ∧ w0.cell? ⟨gp, op + k * 2 + 1, none⟩ = some (.int .i64 bd) := ⟨A1.1, A2.1, B1.1, B2.1⟩
  refine anyN_take 0 (v := ?_) rfl (by kernel_rfl) (by kernel_rfl) (by kernel_rfl) (by kernel_rfl) (by kernel_rfl) (fun _ _ _ h => h) (Or.inl ⟨by rfl, ?_⟩) (by assumption) ?_
  rotate_left
  · intro w hSw
    obtain ⟨_, _, _, _⟩ := hSw
    go_simp
    try with_reducible rfl
  simp only [Act.put, List.setIfInBounds_toArray, List.set_cons_zero, List.set_cons_succ]
  refine anyN_take 1 (v := ?_) rfl (by kernel_rfl) (by kernel_rfl) (by kernel_rfl) (by kernel_rfl) (by kernel_rfl) (fun _ _ _ h => h) (Or.inl ⟨by rfl, ?_⟩) (by assumption) ?_
  rotate_left
  · intro w hSw
    obtain ⟨_, _, _, _⟩ := hSw
    go_simp
    try with_reducible rfl
  simp only [Act.put, List.setIfInBounds_toArray, List.set_cons_zero, List.set_cons_succ]
  refine anyN_take 2 (v := ?_) rfl (by kernel_rfl) (by kernel_rfl) (by kernel_rfl) (by kernel_rfl) (by kernel_rfl) (fun _ _ _ h => h) (Or.inl ⟨by rfl, ?_⟩) (by assumption) ?_
  rotate_left
  · intro w hSw
    obtain ⟨_, _, _, _⟩ := hSw
    go_simp
    try with_reducible rfl
  simp only [Act.put, List.setIfInBounds_toArray, List.set_cons_zero, List.set_cons_succ]
  refine anyN_take 3 (v := ?_) rfl (by kernel_rfl) (by kernel_rfl) (by kernel_rfl) (by kernel_rfl) (by kernel_rfl) (fun _ _ _ h => h) (Or.inl ⟨by rfl, ?_⟩) (by assumption) ?_
  rotate_left
  · intro w hSw
    obtain ⟨_, _, _, _⟩ := hSw
    go_simp
    try with_reducible rfl
  simp only [Act.put, List.setIfInBounds_toArray, List.set_cons_zero, List.set_cons_succ]
  refine anyN_take 4 (v := ?_) rfl (by kernel_rfl) (by kernel_rfl) (by kernel_rfl) (by kernel_rfl) (by kernel_rfl) (fun _ _ _ h => h) (Or.inl ⟨by rfl, ?_⟩) (by assumption) ?_
  rotate_left
  · intro w hSw
    obtain ⟨_, _, _, _⟩ := hSw
    go_simp
    try with_reducible rfl
  simp only [Act.put, List.setIfInBounds_toArray, List.set_cons_zero, List.set_cons_succ]
  refine anyN_take 5 (v := ?_) rfl (by kernel_rfl) (by kernel_rfl) (by kernel_rfl) (by kernel_rfl) (by kernel_rfl) (fun _ _ _ h => h) (Or.inl ⟨by rfl, ?_⟩) (by assumption) ?_
  rotate_left
  · intro w hSw
    obtain ⟨_, _, _, _⟩ := hSw
    go_simp
    try with_reducible rfl
  simp only [Act.put, List.setIfInBounds_toArray, List.set_cons_zero, List.set_cons_succ]
  refine anyN_take 6 (v := ?_) rfl (by kernel_rfl) (by kernel_rfl) (by kernel_rfl) (by kernel_rfl) (by kernel_rfl) (fun _ _ _ h => h) (Or.inl ⟨by rfl, ?_⟩) (by assumption) ?_
  rotate_left
  · intro w hSw
    obtain ⟨_, _, _, _⟩ := hSw
    go_simp
    try with_reducible rfl
  simp only [Act.put, List.setIfInBounds_toArray, List.set_cons_zero, List.set_cons_succ]
  refine anyN_take 7 (v := ?_) rfl (by kernel_rfl) (by kernel_rfl) (by kernel_rfl) (by kernel_rfl) (by kernel_rfl) (fun _ _ _ h => h) (Or.inl ⟨by rfl, ?_⟩) (by assumption) ?_
  rotate_left
  · intro w hSw
    obtain ⟨_, _, _, _⟩ := hSw
    go_simp
    try with_reducible rfl
  simp only [Act.put, List.setIfInBounds_toArray, List.set_cons_zero, List.set_cons_succ]
  refine anyN_one 8 rfl (by kernel_rfl) rfl ?_
  go_simp
  (with_reducible refine (H _).out.mono ?_)
  rintro e wv1 ⟨rfl, hg1⟩
  have k1 := hg1.kp
  replace A1 := A1.kp k1
  replace A2 := A2.kp k1
  replace B1 := B1.kp k1
  replace B2 := B2.kp k1
  replace hg := Lib.hid (hg.out.trans hg1)
  clear k1 hg1
  dsimp only
  refine and_keep ⟨A1.1, A2.1, B1.1, B2.1⟩ (fun hS => ?_)
  refine anyN_take 9 (v := ?_) rfl (by kernel_rfl) (by kernel_rfl) (by kernel_rfl) (by kernel_rfl) (by kernel_rfl) (fun _ _ _ h => h) (Or.inl ⟨by rfl, ?_⟩) (by assumption) ?_
  rotate_left
  · intro w hSw
    obtain ⟨_, _, _, _⟩ := hSw
    go_simp
    try with_reducible rfl
  simp only [Act.put, List.setIfInBounds_toArray, List.set_cons_zero, List.set_cons_succ]
  refine anyN_take 10 (v := ?_) rfl (by kernel_rfl) (by kernel_rfl) (by kernel_rfl) (by kernel_rfl) (by kernel_rfl) (fun _ _ _ h => h) (Or.inl ⟨by rfl, ?_⟩) (by assumption) ?_
  rotate_left
  · intro w hSw
    obtain ⟨_, _, _, _⟩ := hSw
    go_simp
    try with_reducible rfl
  simp only [Act.put, List.setIfInBounds_toArray, List.set_cons_zero, List.set_cons_succ]
  refine anyN_take 11 (v := ?_) rfl (by kernel_rfl) (by kernel_rfl) (by kernel_rfl) (by kernel_rfl) (by kernel_rfl) (fun _ _ _ h => h) (Or.inl ⟨by rfl, ?_⟩) (by assumption) ?_
  rotate_left
  · intro w hSw
    obtain ⟨_, _, _, _⟩ := hSw
    go_simp
    try with_reducible rfl
  simp only [Act.put, List.setIfInBounds_toArray, List.set_cons_zero, List.set_cons_succ]
  refine anyN_one 12 rfl (by kernel_rfl) rfl ?_
  go_simp
  try refine and_keep ⟨A1.1, A2.1, B1.1, B2.1⟩ (fun hS => ?_)
  refine anyN_one 13 rfl (by kernel_rfl) rfl ?_
  go_simp
  refine anyN_done (by kernel_rfl) ?_
  clear hS
  refine NoPanic.normal (hexit _ _ _ _ _ _ _ _ _ _ _ _ _ ?_)
  exact hg.out

set_option maxRecDepth 100000 in
set_option maxHeartbeats 4000000 in
theorem parts_r21 {v0 v1 v2 v3 v4 v6 v7 v8 v17 v18 v19 v20 v21 v22 v23 v24 v25 v26 v27 v28 v29 v30 v31 v32 v33 v34 v35 v36 v37 v38 v39 v40 v41 v42 v43 v44 v45 v46 v47 v48 v49 v50 v51 v52 v53 v54 v55 v56 v57 v58 v59 v60 v61 v62 v63 v64 v65 v66 v67 v68 v69 v70 v71 v72 v73 v74 v75 v76 v77 v78 v79 v80 v81 v82 v83 v84 v85 v86 v87 v88 v89 v90 v91 v92 v93 v94 v95 v96 v97 v98 v99 v100 v101 v102 v103 v104 v105 v106 v107 v108 v109 v110 v111 v112 v113 v114 v115 v116 v117 v118 v119 v120 v121 v122 v123 v124 v125 v126 v127 v128 v129 v130 v131 v132 v133 v134 v135 v136 v137 v138 v139 v140 v141 v142 v143 v144 v145 v146 v147 v148 v149 v150 v151 v152 v153 v154 v155 v156 v157 v158 v159 v160 v161 v162 v163 v164 v165 v166 v167 v168 v169 v170 v171 v172 v173 v174 v175 v176 v177 v178 v179 v180 v181 v182 v183 v184 v185 v186 v187 v188 v189 v190 v191 v192 v193 v194 v195 v196 v197 v198 v199 : Value} {i k M ga oa ca bQ bR : Nat} {a b n qn qd : Int} {W w0 : World} (hg0 : GrewS W w0) (hi : i < M) (hk : k < M) (hM : M ≤ 1000) (h : (n = -1 ∧ a < b) ∨ (n = 0 ∧ a = b) ∨ (n = 1 ∧ b < a)) (A1 : At w0 ⟨ga, oa + i, none⟩ (.int .i64 a)) (B1 : At w0 ⟨ga, oa + k, none⟩ (.int .i64 b)) (Q1 : C2 w0 bQ (.int .i64 qn) (.int .i64 qd)) (Q2 : C2 w0 bR (.int .i64 qn) (.int .i64 qd)) {Q : Exit → Act → World → Prop}
    (hexit : ∀ (u104 u105 u106 u107 u108 u109 u110 u111 u112 u113 u114 u115 u116 u117 u118 u119 u120 u121 u122 u123 u124 u125 u126 u127 u128 u129 u130 u131 u132 u133 u134 u135 u136 u137 u138 u139 u140 u141 : Value) (w' : World), GrewS W w' → Q .normal ⟨#[v0, v1, v2, v3, v4, .slice (some ⟨ga, oa, none⟩) M ca, v6, v7, v8, .int .i64 (i : Int), .int .i64 (k : Int), .pointer (some ⟨bQ, 0, none⟩), .int .i64 0, .pointer (some ⟨bR, 0, none⟩), .int .i64 0, .int .i64 n, .int .i64 0, v17, v18, v19, v20, v21, v22, v23, v24, v25, v26, v27, v28, v29, v30, v31, v32, v33, v34, v35, v36, v37, v38, v39, v40, v41, v42, v43, v44, v45, v46, v47, v48, v49, v50, v51, v52, v53, v54, v55, v56, v57, v58, v59, v60, v61, v62, v63, v64, v65, v66, v67, v68, v69, v70, v71, v72, v73, v74, v75, v76, v77, v78, v79, v80, v81, v82, v83, v84, v85, v86, v87, v88, v89, v90, v91, v92, v93, v94, v95, v96, v97, v98, v99, v100, v101, v102, v103, u104, u105, u106, u107, u108, u109, u110, u111, u112, u113, u114, u115, u116, u117, u118, u119, u120, u121, u122, u123, u124, u125, u126, u127, u128, u129, u130, u131, u132, u133, u134, u135, u136, u137, u138, u139, u140, u141, .bool false, v143, v144, v145, v146, v147, v148, v149, v150, v151, v152, v153, v154, v155, v156, v157, v158, v159, v160, v161, v162, v163, v164, v165, v166, v167, v168, v169, v170, v171, v172, v173, v174, v175, v176, v177, v178, v179, v180, v181, v182, v183, v184, v185, v186, v187, v188, v189, v190, v191, v192, v193, v194, v195, v196, v197, v198, v199], []⟩ w') :
    Code.wp Try.prog code7_21 Q ⟨#[v0, v1, v2, v3, v4, .slice (some ⟨ga, oa, none⟩) M ca, v6, v7, v8, .int .i64 (i : Int), .int .i64 (k : Int), .pointer (some ⟨bQ, 0, none⟩), .int .i64 0, .pointer (some ⟨bR, 0, none⟩), .int .i64 0, .int .i64 n, .int .i64 0, v17, v18, v19, v20, v21, v22, v23, v24, v25, v26, v27, v28, v29, v30, v31, v32, v33, v34, v35, v36, v37, v38, v39, v40, v41, v42, v43, v44, v45, v46, v47, v48, v49, v50, v51, v52, v53, v54, v55, v56, v57, v58, v59, v60, v61, v62, v63, v64, v65, v66, v67, v68, v69, v70, v71, v72, v73, v74, v75, v76, v77, v78, v79, v80, v81, v82, v83, v84, v85, v86, v87, v88, v89, v90, v91, v92, v93, v94, v95, v96, v97, v98, v99, v100, v101, v102, v103, v104, v105, v106, v107, v108, v109, v110, v111, v112, v113, v114, v115, v116, v117, v118, v119, v120, v121, v122, v123, v124, v125, v126, v127, v128, v129, v130, v131, v132, v133, v134, v135, v136, v137, v138, v139, v140, v141, v142, v143, v144, v145, v146, v147, v148, v149, v150, v151, v152, v153, v154, v155, v156, v157, v158, v159, v160, v161, v162, v163, v164, v165, v166, v167, v168, v169, v170, v171, v172, v173, v174, v175, v176, v177, v178, v179, v180, v181, v182, v183, v184, v185, v186, v187, v188, v189, v190, v191, v192, v193, v194, v195, v196, v197, v198, v199], []⟩ w0 := by
  conv => arg 2; whnf
  refine wp_region_noPanic ?_
  have hii : (i : Int) < M := by omega
  have hkk : (k : Int) < M := by omega
  have hi0 : (0 : Int) ≤ i := by omega
  have hk0 : (0 : Int) ≤ k := by omega
  have hiw : IntKind.i64.wrap (i : Int) = i := by rw [IntKind.wrap_i64]; omega
  have hkw : IntKind.i64.wrap (k : Int) = k := by rw [IntKind.wrap_i64]; omega
  have c0 := A1.1
  have c1 := B1.1
  have c2 := Q1.c0
  have c3 := Q1.c1
  have c4 := Q2.c0
  have c5 := Q2.c1
  clear A1 B1 Q1 Q2 hi hk
  rcases h with ⟨rfl, h⟩ | ⟨rfl, rfl⟩ | ⟨rfl, h⟩
  · have h2 : decide (b < a) = false := decide_eq_false (by omega)
    go_quiet (fail)
    refine NoPanic.normal (hexit _ _ _ _ _ _ _ _ _ _ _ _ _ _ _ _ _ _ _ _ _ _ _ _ _ _ _ _ _ _ _ _ _ _ _ _ _ _ _ ?_)
    exact hg0.drewN _
  · go_quiet (fail)
    refine NoPanic.normal (hexit _ _ _ _ _ _ _ _ _ _ _ _ _ _ _ _ _ _ _ _ _ _ _ _ _ _ _ _ _ _ _ _ _ _ _ _ _ _ _ ?_)
    exact hg0.drewN _
  · have h2 : decide (a < b) = false := decide_eq_false (by omega)
    go_quiet (fail)
    refine NoPanic.normal (hexit _ _ _ _ _ _ _ _ _ _ _ _ _ _ _ _ _ _ _ _ _ _ _ _ _ _ _ _ _ _ _ _ _ _ _ _ _ _ _ ?_)
    exact hg0.drewN _

set_option maxRecDepth 100000 in
set_option maxHeartbeats 4000000 in
theorem parts_r33 {v0 v1 v2 v3 v4 v5 v6 v7 v8 v9 v10 v11 v12 v13 v14 v15 v16 v17 v19 v21 v23 v24 v25 v26 v27 v28 v29 v30 v31 v32 v33 v34 v35 v36 v37 v38 v39 v40 v41 v42 v43 v44 v45 v46 v47 v48 v49 v50 v51 v52 v53 v54 v55 v56 v57 v58 v59 v60 v61 v62 v63 v64 v65 v66 v67 v68 v69 v70 v71 v72 v73 v74 v75 v76 v77 v78 v79 v80 v81 v82 v83 v84 v85 v86 v87 v88 v89 v90 v91 v92 v93 v94 v95 v96 v97 v98 v99 v100 v101 v102 v103 v104 v105 v106 v107 v108 v109 v110 v111 v112 v113 v114 v115 v116 v117 v118 v119 v120 v121 v122 v123 v124 v125 v126 v127 v128 v129 v130 v131 v132 v133 v134 v135 v136 v137 v138 v139 v140 v141 v142 v143 v144 v145 v146 v147 v148 v149 v150 v151 v152 v153 v154 v155 v156 v157 v158 v159 v160 v161 v162 v163 v164 v165 v166 v167 v168 v169 v170 v171 v172 v173 v174 v175 v176 v177 v178 v179 v180 v181 v182 v183 v184 v185 v186 v187 v188 v189 v190 v191 v192 v193 v194 v195 v196 v197 v198 v199 : Value} {i M gp op cp bV : Nat} {an ad bn bd qn qd : Int} {W w0 : World} (hg0 : GrewS W w0) (hi : i < M) (hM : M ≤ 1000) (h : tmN an ad bn bd = qn ∧ tmD an ad bn bd = qd ∧ tmE an ad bn bd = 0) (A1 : At w0 ⟨gp, op + i * 2, none⟩ (.int .i64 an)) (A2 : At w0 ⟨gp, op + i * 2 + 1, none⟩ (.int .i64 ad)) (V : C2 w0 bV (.int .i64 bn) (.int .i64 bd)) {Q : Exit → Act → World → Prop}
    (hexit : ∀ (u23 u180 u181 u182 u183 u184 u185 u186 u187 u188 : Value) (w' : World), ((∃ B : Nat, u23 = .pointer (some ⟨B, 0, none⟩) ∧ C2 w' B (.int .i64 qn) (.int .i64 qd)) ∧ GrewS W w') → Q .normal ⟨#[v0, v1, v2, v3, v4, v5, v6, v7, v8, v9, v10, v11, v12, v13, v14, v15, v16, v17, .slice (some ⟨gp, op, none⟩) M cp, v19, .pointer (some ⟨bV, 0, none⟩), v21, .int .i64 (i : Int), u23, .int .i64 0, v25, v26, v27, v28, v29, v30, v31, v32, v33, v34, v35, v36, v37, v38, v39, v40, v41, v42, v43, v44, v45, v46, v47, v48, v49, v50, v51, v52, v53, v54, v55, v56, v57, v58, v59, v60, v61, v62, v63, v64, v65, v66, v67, v68, v69, v70, v71, v72, v73, v74, v75, v76, v77, v78, v79, v80, v81, v82, v83, v84, v85, v86, v87, v88, v89, v90, v91, v92, v93, v94, v95, v96, v97, v98, v99, v100, v101, v102, v103, v104, v105, v106, v107, v108, v109, v110, v111, v112, v113, v114, v115, v116, v117, v118, v119, v120, v121, v122, v123, v124, v125, v126, v127, v128, v129, v130, v131, v132, v133, v134, v135, v136, v137, v138, v139, v140, v141, v142, v143, v144, v145, v146, v147, v148, v149, v150, v151, v152, v153, v154, v155, v156, v157, v158, v159, v160, v161, v162, v163, v164, v165, v166, v167, v168, v169, v170, v171, v172, v173, v174, v175, v176, v177, v178, v179, u180, u181, u182, u183, u184, u185, u186, u187, u188, v189, v190, v191, v192, v193, v194, v195, v196, v197, v198, v199], []⟩ w') :
    Code.wp Try.prog code7_33 Q ⟨#[v0, v1, v2, v3, v4, v5, v6, v7, v8, v9, v10, v11, v12, v13, v14, v15, v16, v17, .slice (some ⟨gp, op, none⟩) M cp, v19, .pointer (some ⟨bV, 0, none⟩), v21, .int .i64 (i : Int), v23, v24, v25, v26, v27, v28, v29, v30, v31, v32, v33, v34, v35, v36, v37, v38, v39, v40, v41, v42, v43, v44, v45, v46, v47, v48, v49, v50, v51, v52, v53, v54, v55, v56, v57, v58, v59, v60, v61, v62, v63, v64, v65, v66, v67, v68, v69, v70, v71, v72, v73, v74, v75, v76, v77, v78, v79, v80, v81, v82, v83, v84, v85, v86, v87, v88, v89, v90, v91, v92, v93, v94, v95, v96, v97, v98, v99, v100, v101, v102, v103, v104, v105, v106, v107, v108, v109, v110, v111, v112, v113, v114, v115, v116, v117, v118, v119, v120, v121, v122, v123, v124, v125, v126, v127, v128, v129, v130, v131, v132, v133, v134, v135, v136, v137, v138, v139, v140, v141, v142, v143, v144, v145, v146, v147, v148, v149, v150, v151, v152, v153, v154, v155, v156, v157, v158, v159, v160, v161, v162, v163, v164, v165, v166, v167, v168, v169, v170, v171, v172, v173, v174, v175, v176, v177, v178, v179, v180, v181, v182, v183, v184, v185, v186, v187, v188, v189, v190, v191, v192, v193, v194, v195, v196, v197, v198, v199], []⟩ w0 := by
  conv => arg 2; whnf
  refine wp_region_noPanic ?_
  have hii : (i : Int) < M := by omega
  have hi0 : (0 : Int) ≤ i := by omega
  have hiw : IntKind.i64.wrap (i : Int) = i := by rw [IntKind.wrap_i64]; omega
  have H' := fun w => times_any an ad bn bd w
  rw [h.1, h.2.1, h.2.2] at H'
  have H := fun w => Lib.hid (H' w)
  have hg := Lib.hid hg0
  clear h H' hi
  refine wp_region_anyN (fun w' => w'.cell? ⟨gp, op + i * 2, none⟩ = some (.int .i64 an) ∧ w'.cell? ⟨gp, op + i * 2 + 1, none⟩ = some (.int .i64 ad) ∧ w'.cell? ⟨bV, 0, none⟩ = some (.int .i64 bn) ∧ w'.cell? ⟨bV, 1, none⟩ = some (.int .i64 bd)) 11 (by kernel_rfl) ?_
  replace A1 := A1.drew
  replace A2 := A2.drew
  replace V := V.drew
  replace hg := Lib.hid hg.out.drew
  generalize w0.drew = w0 at *
  have hS : w0.cell? ⟨gp, op + i * 2, none⟩ = some (.int .i64 an) ∧ w0.cell? ⟨gp, op + i * 2 + 1, none⟩ = some (.int .i64 ad) ∧ w0.cell? ⟨bV, 0, none⟩ = some (.int .i64 bn) ∧ w0.cell? ⟨bV, 1, none⟩ = some (.int .i64 bd) := ⟨A1.1, A2.1, V.c0, V.c1⟩
  refine anyN_take 0 (v := ?_) rfl (by kernel_rfl) (by kernel_rfl) (by kernel_rfl) (by kernel_rfl) (by kernel_rfl) (fun _ _ _ h => h) (Or.inl ⟨by rfl, ?_⟩) (by assumption) ?_
  rotate_left
  · intro w hSw
    obtain ⟨_, _, _, _⟩ := hSw
    go_simp
    try with_reducible rfl
  simp only [Act.put, List.setIfInBounds_toArray, List.set_cons_zero, List.set_cons_succ]
  refine anyN_take 1 (v := ?_) rfl (by kernel_rfl) (by kernel_rfl) (by kernel_rfl) (by kernel_rfl) (by kernel_rfl) (fun _ _ _ h => h) (Or.inl ⟨by rfl, ?_⟩) (by assumption) ?_
  rotate_left
  · intro w hSw
    obtain ⟨_, _, _, _⟩ := hSw
    go_simp
    try with_reducible rfl
  simp only [Act.put, List.setIfInBounds_toArray, List.set_cons_zero, List.set_cons_succ]
  refine anyN_take 2 (v := ?_) rfl (by kernel_rfl) (by kernel_rfl) (by kernel_rfl) (by kernel_rfl) (by kernel_rfl) (fun _ _ _ h => h) (Or.inl ⟨by rfl, ?_⟩) (by assumption) ?_
  rotate_left
  · intro w hSw
    obtain ⟨_, _, _, _⟩ := hSw
    go_simp
    try with_reducible rfl
  simp only [Act.put, List.setIfInBounds_toArray, List.set_cons_zero, List.set_cons_succ]
  refine anyN_take 3 (v := ?_) rfl (by kernel_rfl) (by kernel_rfl) (by kernel_rfl) (by kernel_rfl) (by kernel_rfl) (fun _ _ _ h => h) (Or.inl ⟨by rfl, ?_⟩) (by assumption) ?_
  rotate_left
  · intro w hSw
    obtain ⟨_, _, _, _⟩ := hSw
    go_simp
    try with_reducible rfl
  simp only [Act.put, List.setIfInBounds_toArray, List.set_cons_zero, List.set_cons_succ]
  refine anyN_take 4 (v := ?_) rfl (by kernel_rfl) (by kernel_rfl) (by kernel_rfl) (by kernel_rfl) (by kernel_rfl) (fun _ _ _ h => h) (Or.inl ⟨by rfl, ?_⟩) (by assumption) ?_
  rotate_left
  · intro w hSw
    obtain ⟨_, _, _, _⟩ := hSw
    go_simp
    try with_reducible rfl
  simp only [Act.put, List.setIfInBounds_toArray, List.set_cons_zero, List.set_cons_succ]
  refine anyN_two 5 9 rfl rfl (by kernel_rfl) rfl rfl ?_ ?_
  · go_simp
    (with_reducible refine (H _).out.mono ?_)
    rintro e wv1 ⟨rfl, hg1⟩
    have k1 := hg1.kp
    replace A1 := A1.kp k1
    replace A2 := A2.kp k1
    replace V := V.kp k1
    replace hg := Lib.hid (hg.out.trans hg1)
    clear k1 hg1
    dsimp only
    refine and_keep ⟨A1.1, A2.1, V.c0, V.c1⟩ (fun hS => ?_)
    refine anyN_take 6 (v := ?_) rfl (by kernel_rfl) (by kernel_rfl) (by kernel_rfl) (by kernel_rfl) (by kernel_rfl) (fun _ _ _ h => h) (Or.inl ⟨by rfl, ?_⟩) (by assumption) ?_
    rotate_left
    · intro w hSw
      obtain ⟨_, _, _, _⟩ := hSw
      go_simp
      try with_reducible rfl
    simp only [Act.put, List.setIfInBounds_toArray, List.set_cons_zero, List.set_cons_succ]
    refine anyN_take 7 (v := ?_) rfl (by kernel_rfl) (by kernel_rfl) (by kernel_rfl) (by kernel_rfl) (by kernel_rfl) (fun _ _ _ h => h) (Or.inl ⟨by rfl, ?_⟩) (by assumption) ?_
    rotate_left
    · intro w hSw
      obtain ⟨_, _, _, _⟩ := hSw
      go_simp
      try with_reducible rfl
    simp only [Act.put, List.setIfInBounds_toArray, List.set_cons_zero, List.set_cons_succ]
    refine anyN_take 8 (v := ?_) rfl (by kernel_rfl) (by kernel_rfl) (by kernel_rfl) (by kernel_rfl) (by kernel_rfl) (fun _ _ _ h => h) (Or.inl ⟨by rfl, ?_⟩) (by assumption) ?_
    rotate_left
    · intro w hSw
      obtain ⟨_, _, _, _⟩ := hSw
      go_simp
      try with_reducible rfl
    simp only [Act.put, List.setIfInBounds_toArray, List.set_cons_zero, List.set_cons_succ]
    refine anyN_one 9 rfl (by kernel_rfl) rfl ?_
    go_simp
    have ne_Z_A1 : wv1.heap.size ≠ gp := Nat.ne_of_gt A1.2
    have ne_Z_A2 : wv1.heap.size ≠ gp := Nat.ne_of_gt A2.2
    have ne_Z_V : wv1.heap.size ≠ bV := Nat.ne_of_gt V.lt
    have le_Z : W.heap.size ≤ wv1.heap.size := hg.out.kp.size
    have Z := C2.new wv1 (.int .i64 0) (.int .i64 0) 25
    have FZ := Fz.new wv1 #[.int .i64 0, .int .i64 0] 25
    replace A1 := A1.alloc (.cells #[.int .i64 0, .int .i64 0] 25)
    replace A2 := A2.alloc (.cells #[.int .i64 0, .int .i64 0] 25)
    replace V := V.alloc (.cells #[.int .i64 0, .int .i64 0] 25)
    replace hg := Lib.hid (hg.out.alloc (.cells #[.int .i64 0, .int .i64 0] 25))
    generalize wv1.alloc (.cells #[.int .i64 0, .int .i64 0] 25) = wa2 at *
    generalize wv1.heap.size = bZ at *
    refine and_keep ⟨A1.1, A2.1, V.c0, V.c1⟩ (fun hS => ?_)
    have Z_0 := Z.c0
    have Z_1 := Z.c1
    have FZ_2 := FZ.2
    refine anyN_one 10 rfl (by kernel_rfl) rfl ?_
    go_simp
    clear Z_0 Z_1 FZ_2
    replace A1 := A1.far2 (B := bZ) ne_Z_A1 (.int .i64 qn) (.int .i64 qd)
    replace A2 := A2.far2 (B := bZ) ne_Z_A2 (.int .i64 qn) (.int .i64 qd)
    replace V := V.far2 ne_Z_V (.int .i64 qn) (.int .i64 qd)
    replace Z := Z.set (.int .i64 qn) (.int .i64 qd)
    replace FZ := (FZ.set ⟨bZ, 0, none⟩ (.int .i64 qn)).set ⟨bZ, 1, none⟩ (.int .i64 qd)
    replace hg := Lib.hid (hg.out.set2 (B := bZ) le_Z (.int .i64 qn) (.int .i64 qd))
    generalize World.setCell _ _ _ = ws3 at *
    try refine and_keep ⟨A1.1, A2.1, V.c0, V.c1⟩ (fun hS => ?_)
    refine anyN_one 11 rfl (by kernel_rfl) rfl ?_
    go_simp
    refine anyN_done (by kernel_rfl) ?_
    clear hS
    refine NoPanic.normal (hexit _ _ _ _ _ _ _ _ _ _ _ ?_)
    exact ⟨⟨_, rfl, Z⟩, hg.out⟩
  · go_simp
    have ne_Z_A1 : w0.heap.size ≠ gp := Nat.ne_of_gt A1.2
    have ne_Z_A2 : w0.heap.size ≠ gp := Nat.ne_of_gt A2.2
    have ne_Z_V : w0.heap.size ≠ bV := Nat.ne_of_gt V.lt
    have le_Z : W.heap.size ≤ w0.heap.size := hg.out.kp.size
    have Z := C2.new w0 (.int .i64 0) (.int .i64 0) 25
    have FZ := Fz.new w0 #[.int .i64 0, .int .i64 0] 25
    replace A1 := A1.alloc (.cells #[.int .i64 0, .int .i64 0] 25)
    replace A2 := A2.alloc (.cells #[.int .i64 0, .int .i64 0] 25)
    replace V := V.alloc (.cells #[.int .i64 0, .int .i64 0] 25)
    replace hg := Lib.hid (hg.out.alloc (.cells #[.int .i64 0, .int .i64 0] 25))
    generalize w0.alloc (.cells #[.int .i64 0, .int .i64 0] 25) = wa4 at *
    generalize w0.heap.size = bZ at *
    refine and_keep ⟨A1.1, A2.1, V.c0, V.c1⟩ (fun hS => ?_)
    refine anyN_one 5 rfl (by kernel_rfl) rfl ?_
    go_simp
    (with_reducible refine (H _).out.mono ?_)
    rintro e wv5 ⟨rfl, hg1⟩
    have k1 := hg1.kp
    replace A1 := A1.kp k1
    replace A2 := A2.kp k1
    replace V := V.kp k1
    replace Z := Z.kp k1
    replace FZ := FZ.kp k1
    replace hg := Lib.hid (hg.out.trans hg1)
    clear k1 hg1
    dsimp only
    refine and_keep ⟨A1.1, A2.1, V.c0, V.c1⟩ (fun hS => ?_)
    refine anyN_take 6 (v := ?_) rfl (by kernel_rfl) (by kernel_rfl) (by kernel_rfl) (by kernel_rfl) (by kernel_rfl) (fun _ _ _ h => h) (Or.inl ⟨by rfl, ?_⟩) (by assumption) ?_
    rotate_left
    · intro w hSw
      obtain ⟨_, _, _, _⟩ := hSw
      go_simp
      try with_reducible rfl
    simp only [Act.put, List.setIfInBounds_toArray, List.set_cons_zero, List.set_cons_succ]
    refine anyN_take 7 (v := ?_) rfl (by kernel_rfl) (by kernel_rfl) (by kernel_rfl) (by kernel_rfl) (by kernel_rfl) (fun _ _ _ h => h) (Or.inl ⟨by rfl, ?_⟩) (by assumption) ?_
    rotate_left
    · intro w hSw
      obtain ⟨_, _, _, _⟩ := hSw
      go_simp
      try with_reducible rfl
    simp only [Act.put, List.setIfInBounds_toArray, List.set_cons_zero, List.set_cons_succ]
    refine anyN_take 8 (v := ?_) rfl (by kernel_rfl) (by kernel_rfl) (by kernel_rfl) (by kernel_rfl) (by kernel_rfl) (fun _ _ _ h => h) (Or.inl ⟨by rfl, ?_⟩) (by assumption) ?_
    rotate_left
    · intro w hSw
      obtain ⟨_, _, _, _⟩ := hSw
      go_simp
      try with_reducible rfl
    simp only [Act.put, List.setIfInBounds_toArray, List.set_cons_zero, List.set_cons_succ]
    have Z_0 := Z.c0
    have Z_1 := Z.c1
    have FZ_2 := FZ.2
    refine anyN_one 10 rfl (by kernel_rfl) rfl ?_
    go_simp
    clear Z_0 Z_1 FZ_2
    replace A1 := A1.far2 (B := bZ) ne_Z_A1 (.int .i64 qn) (.int .i64 qd)
    replace A2 := A2.far2 (B := bZ) ne_Z_A2 (.int .i64 qn) (.int .i64 qd)
    replace V := V.far2 ne_Z_V (.int .i64 qn) (.int .i64 qd)
    replace Z := Z.set (.int .i64 qn) (.int .i64 qd)
    replace FZ := (FZ.set ⟨bZ, 0, none⟩ (.int .i64 qn)).set ⟨bZ, 1, none⟩ (.int .i64 qd)
    replace hg := Lib.hid (hg.out.set2 (B := bZ) le_Z (.int .i64 qn) (.int .i64 qd))
    generalize World.setCell _ _ _ = ws6 at *
    try refine and_keep ⟨A1.1, A2.1, V.c0, V.c1⟩ (fun hS => ?_)
    refine anyN_one 11 rfl (by kernel_rfl) rfl ?_
    go_simp
    refine anyN_done (by kernel_rfl) ?_
    clear hS
    refine NoPanic.normal (hexit _ _ _ _ _ _ _ _ _ _ _ ?_)
    exact ⟨⟨_, rfl, Z⟩, hg.out⟩

set_option maxRecDepth 100000 in
set_option maxHeartbeats 4000000 in
theorem parts_r34 {v0 v1 v2 v3 v4 v5 v7 v8 v9 v10 v11 v12 v13 v14 v15 v16 v17 v18 v19 v20 v21 v25 v26 v27 v28 v29 v30 v31 v32 v33 v34 v35 v36 v37 v38 v39 v40 v41 v42 v43 v44 v45 v46 v47 v48 v49 v50 v51 v52 v53 v54 v55 v56 v57 v58 v59 v60 v61 v62 v63 v64 v65 v66 v67 v68 v69 v70 v71 v72 v73 v74 v75 v76 v77 v78 v79 v80 v81 v82 v83 v84 v85 v86 v87 v88 v89 v90 v91 v92 v93 v94 v95 v96 v97 v98 v99 v100 v101 v102 v103 v104 v105 v106 v107 v108 v109 v110 v111 v112 v113 v114 v115 v116 v117 v118 v119 v120 v121 v122 v123 v124 v125 v126 v127 v128 v129 v130 v131 v132 v133 v134 v135 v136 v137 v138 v139 v140 v141 v142 v143 v144 v145 v146 v147 v148 v149 v150 v151 v152 v153 v154 v155 v156 v157 v158 v159 v160 v161 v162 v163 v164 v165 v166 v167 v168 v169 v170 v171 v172 v173 v174 v175 v176 v177 v178 v179 v180 v181 v182 v183 v184 v185 v186 v187 v188 v189 v190 v191 v192 v193 v194 v195 v196 v197 v198 v199 : Value} {i M gp op cp bQ : Nat} {qn qd : Int} {W w0 : World} (hg0 : GrewS W w0) (hi : i < M) (hM : M ≤ 1000) (A1 : At w0 ⟨gp, op + i * 2, none⟩ (.int .i64 qn)) (A2 : At w0 ⟨gp, op + i * 2 + 1, none⟩ (.int .i64 qd)) (Q1 : C2 w0 bQ (.int .i64 qn) (.int .i64 qd)) {Q : Exit → Act → World → Prop}
    (hexit : ∀ (u189 u190 u191 u192 u193 u194 u195 u196 u197 : Value) (w' : World), GrewS W w' → Q .normal ⟨#[v0, v1, v2, v3, v4, v5, .slice (some ⟨gp, op, none⟩) M cp, v7, v8, v9, v10, v11, v12, v13, v14, v15, v16, v17, v18, v19, v20, v21, .int .i64 (i : Int), .pointer (some ⟨bQ, 0, none⟩), .int .i64 0, v25, v26, v27, v28, v29, v30, v31, v32, v33, v34, v35, v36, v37, v38, v39, v40, v41, v42, v43, v44, v45, v46, v47, v48, v49, v50, v51, v52, v53, v54, v55, v56, v57, v58, v59, v60, v61, v62, v63, v64, v65, v66, v67, v68, v69, v70, v71, v72, v73, v74, v75, v76, v77, v78, v79, v80, v81, v82, v83, v84, v85, v86, v87, v88, v89, v90, v91, v92, v93, v94, v95, v96, v97, v98, v99, v100, v101, v102, v103, v104, v105, v106, v107, v108, v109, v110, v111, v112, v113, v114, v115, v116, v117, v118, v119, v120, v121, v122, v123, v124, v125, v126, v127, v128, v129, v130, v131, v132, v133, v134, v135, v136, v137, v138, v139, v140, v141, v142, v143, v144, v145, v146, v147, v148, v149, v150, v151, v152, v153, v154, v155, v156, v157, v158, v159, v160, v161, v162, v163, v164, v165, v166, v167, v168, v169, v170, v171, v172, v173, v174, v175, v176, v177, v178, v179, v180, v181, v182, v183, v184, v185, v186, v187, v188, u189, u190, u191, u192, u193, u194, u195, u196, u197, .bool false, v199], []⟩ w') :
    Code.wp Try.prog code7_34 Q ⟨#[v0, v1, v2, v3, v4, v5, .slice (some ⟨gp, op, none⟩) M cp, v7, v8, v9, v10, v11, v12, v13, v14, v15, v16, v17, v18, v19, v20, v21, .int .i64 (i : Int), .pointer (some ⟨bQ, 0, none⟩), .int .i64 0, v25, v26, v27, v28, v29, v30, v31, v32, v33, v34, v35, v36, v37, v38, v39, v40, v41, v42, v43, v44, v45, v46, v47, v48, v49, v50, v51, v52, v53, v54, v55, v56, v57, v58, v59, v60, v61, v62, v63, v64, v65, v66, v67, v68, v69, v70, v71, v72, v73, v74, v75, v76, v77, v78, v79, v80, v81, v82, v83, v84, v85, v86, v87, v88, v89, v90, v91, v92, v93, v94, v95, v96, v97, v98, v99, v100, v101, v102, v103, v104, v105, v106, v107, v108, v109, v110, v111, v112, v113, v114, v115, v116, v117, v118, v119, v120, v121, v122, v123, v124, v125, v126, v127, v128, v129, v130, v131, v132, v133, v134, v135, v136, v137, v138, v139, v140, v141, v142, v143, v144, v145, v146, v147, v148, v149, v150, v151, v152, v153, v154, v155, v156, v157, v158, v159, v160, v161, v162, v163, v164, v165, v166, v167, v168, v169, v170, v171, v172, v173, v174, v175, v176, v177, v178, v179, v180, v181, v182, v183, v184, v185, v186, v187, v188, v189, v190, v191, v192, v193, v194, v195, v196, v197, v198, v199], []⟩ w0 := by
  conv => arg 2; whnf
  refine wp_region_noPanic ?_
  have hii : (i : Int) < M := by omega
  have hi0 : (0 : Int) ≤ i := by omega
  have hiw : IntKind.i64.wrap (i : Int) = i := by rw [IntKind.wrap_i64]; omega
  have c0 := A1.1
  have c1 := A2.1
  have c2 := Q1.c0
  have c3 := Q1.c1
  clear A1 A2 Q1 hi
  go_quiet (fail)
  refine NoPanic.normal (hexit _ _ _ _ _ _ _ _ _ _ ?_)
  exact hg0.drewN _
end Go.Proofs.Ytjffikiebeneaaa
