/-
  A region of the law ShareSmall: what is told of one share with a number, and of lists made of them.
-/
import Derived.Test.YtjffikiebeneaaaTells17
import Derived.Test.YtjffikiebeneaaaLLists17
import Derived.Test.YtjffikiebeneaaaCut4
import Derived.Test.YtjffikiebeneaaaRefPa17
namespace Go.Proofs.Ytjffikiebeneaaa
open Go.RowKit

section
variable {P : Program} {Q : Exit → Act → World → Prop} {md : Region.Mode} {S : World → Prop} {n : Nat}
/-- Two may come up, and both are wanted. -/
theorem anyN_twoG (i j : Nat) {l : List Oper} {mi mj : List Oper} {oi oj : Oper} {k : Nat} {got : Array Bool} {a : Act} {w : World} (hi : l.drop i = oi :: mi) (hj : l.drop j = oj :: mj)
    (hr : Region.ready md l.toArray got = [i, j]) (gi : Region.wanted oi (yielded l.toArray a.tmps) = true) (gj : Region.wanted oj (yielded l.toArray a.tmps) = true)
    (h1 : oi.wp P a w (fun a' w' => (i < n → S w') ∧ anyN P md l.toArray Q S n k (got.setIfInBounds i true) a' w') Q)
    (h2 : oj.wp P a w (fun a' w' => (j < n → S w') ∧ anyN P md l.toArray Q S n k (got.setIfInBounds j true) a' w') Q) : anyN P md l.toArray Q S n (k + 1) got a w := by
  have at_ : ∀ (i : Nat) (o : Oper) (m : List Oper), l.drop i = o :: m → l.toArray[i]? = some o := fun i o m h => by
    have h0 : (l.drop i)[0]? = some o := by rw [h]; rfl
    rw [List.getElem?_drop] at h0
    simpa using h0
  refine ⟨fun h0 => (by rw [hr] at h0; cases h0), fun x hx => ?_⟩
  rw [hr] at hx
  unfold wpOp
  simp only [List.mem_cons, List.not_mem_nil, or_false] at hx
  rcases hx with rfl | rfl
  · simp only [at_ _ _ _ hi]
    rw [if_pos gi]
    exact .inl h1
  · simp only [at_ _ _ _ hj]
    rw [if_pos gj]
    exact .inl h2
end
/-- Nothing that was there has turned. -/
def KpS (W w : World) : Prop := Kp W.heap.size W w
theorem KpS.refl (W : World) : KpS W W := Kp.refl _ _
theorem KpS.kp {W w : World} (h : KpS W w) : Kp W.heap.size W w := h
theorem KpS.drew {W w : World} (h : KpS W w) : KpS W w.drew := Kp.drewN h 1
theorem KpS.drewN {W w : World} (h : KpS W w) (n : Nat) : KpS W (w.drewN n) := Kp.drewN h n
theorem KpS.alloc {W w : World} (h : KpS W w) (o : Obj) : KpS W (w.alloc o) := Kp.alloc h (Kp.size h) o
theorem KpS.trans {a b c : World} (h : KpS a b) (k : KpS b c) : KpS a c := Kp.trans h (Kp.mono k (Kp.size h))
theorem ints_C2 {w : World} {B : Nat} {x y : Int} (h : C2 w B (.int .i64 x) (.int .i64 y)) : IsInts w .i64 (some ⟨B, 0, none⟩) 2 [x, y] := by
  intro i hi
  have : i = 0 ∨ i = 1 := by omega
  rcases this with rfl | rfl
  · exact ⟨B, 0, rfl, h.lt, h.c0⟩
  · exact ⟨B, 0, rfl, h.lt, h.c1⟩
theorem ints_C3 {w : World} {B : Nat} {x y z : Int} (h : C3 w B (.int .i64 x) (.int .i64 y) (.int .i64 z)) : IsInts w .i64 (some ⟨B, 0, none⟩) 3 [x, y, z] := by
  intro i hi
  have : i = 0 ∨ i = 1 ∨ i = 2 := by omega
  rcases this with rfl | rfl | rfl
  · exact ⟨B, 0, rfl, h.lt, h.c0⟩
  · exact ⟨B, 0, rfl, h.lt, h.c1⟩
  · exact ⟨B, 0, rfl, h.lt, h.c2⟩
theorem prs_C4 {w : World} {B : Nat} {x y z u : Int} (h : C4 w B (.int .i64 x) (.int .i64 y) (.int .i64 z) (.int .i64 u)) : IsPrs w (some ⟨B, 0, none⟩) 2 [(x, y), (z, u)] := by
  intro i hi
  have : i = 0 ∨ i = 1 := by omega
  rcases this with rfl | rfl
  · exact ⟨B, 0, rfl, h.lt, h.c0, h.c1⟩
  · exact ⟨B, 0, rfl, h.lt, h.c2, h.c3⟩

/-- The region n of a code. -/
def findR (n : Nat) : Code → Option Code
  | .region i ops d => if i = n then some (.region i ops d) else none
  | .seq a b => match findR n a with
    | some c => some c
    | none => findR n b
  | .cond _ a b => match findR n a with
    | some c => some c
    | none => findR n b
  | .block _ c => findR n c
  | .loop c => findR n c
  | .scope c => findR n c
  | _ => none
noncomputable def code11_26 : Code := (Try.f11.body.bind (findR 26)).getD .skip
set_option maxRecDepth 100000 in
set_option maxHeartbeats 4000000 in
theorem small_r26 {v0 v2 v3 v4 v5 v8 v9 v10 v12 v13 v14 v15 v16 v17 v18 v19 v20 v21 v22 v23 v24 v25 v26 v27 v28 v29 v30 v31 v32 v33 v34 v35 v36 v37 v38 v39 v40 v41 v42 v43 v44 v45 v46 v47 v48 v49 v50 v51 v52 v53 v54 v55 v56 v57 v58 v59 v60 v61 v62 v63 v64 v65 v66 v67 v68 v69 v70 v71 v72 v73 v74 v75 v76 v77 v78 v79 v80 v81 v82 v83 v84 v85 v86 v87 v88 v89 v90 v91 v92 v93 v94 v95 v96 v97 v98 v99 v100 v101 v102 v103 v104 v105 v106 v107 v108 v109 v110 v111 v112 v113 v114 v115 v116 v117 v118 v119 v120 v121 v122 v123 v124 v125 v126 v127 v128 v129 v130 v131 v132 v133 v134 v135 v136 v137 v138 v139 v140 v141 v142 v143 v144 v145 v146 v147 v148 v149 v150 v151 v152 v153 v154 v155 v156 v157 v158 v159 v160 v161 v162 v163 v164 v165 v166 v167 v168 v169 v170 v171 v172 v173 v174 v175 v176 v177 v178 v179 v180 v181 v182 v183 v184 v185 v186 : Value} {i q M gp op cp bX : Nat} {a b c d n : Int} {W w0 : World} (hg0 : KpS W w0) (hq : i / 2 = q) (hi : q < M) (hi2 : i ≤ 1000) (hM : M ≤ 1000) (ha : a ≤ 9223372036854775807) (hd : d ≤ 9223372036854775807) (X : C2 w0 bX (.int .i64 a) (.int .i64 b)) (A1 : At w0 ⟨gp, op + q * 2, none⟩ (.int .i64 c)) (A2 : At w0 ⟨gp, op + q * 2 + 1, none⟩ (.int .i64 d)) {Q : Exit → Act → World → Prop}
    (hexit : ∀ (u83 u84 u85 u86 u87 u88 u89 u90 u91 u92 u93 u94 u95 u96 u97 u98 u99 u100 u101 u102 u103 u104 u105 u106 u107 u108 u109 u110 u111 u112 u113 u114 : Value) (w' : World), KpS W w' → Q .normal ⟨#[v0, .slice (some ⟨gp, op, none⟩) M cp, v2, v3, v4, v5, .int .i64 (i : Int), .pointer (some ⟨bX, 0, none⟩), v8, v9, v10, .int .i64 n, v12, v13, v14, v15, v16, v17, v18, v19, v20, v21, v22, v23, v24, v25, v26, v27, v28, v29, v30, v31, v32, v33, v34, v35, v36, v37, v38, v39, v40, v41, v42, v43, v44, v45, v46, v47, v48, v49, v50, v51, v52, v53, v54, v55, v56, v57, v58, v59, v60, v61, v62, v63, v64, v65, v66, v67, v68, v69, v70, v71, v72, v73, v74, v75, v76, v77, v78, v79, v80, v81, v82, u83, u84, u85, u86, u87, u88, u89, u90, u91, u92, u93, u94, u95, u96, u97, u98, u99, u100, u101, u102, u103, u104, u105, u106, u107, u108, u109, u110, u111, u112, u113, u114, .bool false, v116, v117, v118, v119, v120, v121, v122, v123, v124, v125, v126, v127, v128, v129, v130, v131, v132, v133, v134, v135, v136, v137, v138, v139, v140, v141, v142, v143, v144, v145, v146, v147, v148, v149, v150, v151, v152, v153, v154, v155, v156, v157, v158, v159, v160, v161, v162, v163, v164, v165, v166, v167, v168, v169, v170, v171, v172, v173, v174, v175, v176, v177, v178, v179, v180, v181, v182, v183, v184, v185, v186], []⟩ w') :
    Code.wp Try.prog code11_26 Q ⟨#[v0, .slice (some ⟨gp, op, none⟩) M cp, v2, v3, v4, v5, .int .i64 (i : Int), .pointer (some ⟨bX, 0, none⟩), v8, v9, v10, .int .i64 n, v12, v13, v14, v15, v16, v17, v18, v19, v20, v21, v22, v23, v24, v25, v26, v27, v28, v29, v30, v31, v32, v33, v34, v35, v36, v37, v38, v39, v40, v41, v42, v43, v44, v45, v46, v47, v48, v49, v50, v51, v52, v53, v54, v55, v56, v57, v58, v59, v60, v61, v62, v63, v64, v65, v66, v67, v68, v69, v70, v71, v72, v73, v74, v75, v76, v77, v78, v79, v80, v81, v82, v83, v84, v85, v86, v87, v88, v89, v90, v91, v92, v93, v94, v95, v96, v97, v98, v99, v100, v101, v102, v103, v104, v105, v106, v107, v108, v109, v110, v111, v112, v113, v114, v115, v116, v117, v118, v119, v120, v121, v122, v123, v124, v125, v126, v127, v128, v129, v130, v131, v132, v133, v134, v135, v136, v137, v138, v139, v140, v141, v142, v143, v144, v145, v146, v147, v148, v149, v150, v151, v152, v153, v154, v155, v156, v157, v158, v159, v160, v161, v162, v163, v164, v165, v166, v167, v168, v169, v170, v171, v172, v173, v174, v175, v176, v177, v178, v179, v180, v181, v182, v183, v184, v185, v186], []⟩ w0 := by
  conv => arg 2; whnf
  refine wp_region_noPanic ?_
  have HT := fun w => Lib.hid (show Calls Try.prog 21 #[shr a b, shr c d, .int .i64 n] w fun e w' => e = .returned (.bool true) ∧ KpS w w' from (tells_any a b c d n w ha hd).mono fun _ _ ⟨h1, h2⟩ => ⟨h1, h2.kp⟩)
  have HL1 := fun w (p r : Nat) (h1 : C2 w p (.int .i64 n) (.int .i64 2)) (h2 : C4 w r (.int .i64 1) (.int .i64 1) (.int .i64 n) (.int .i64 2147483648)) => Lib.hid (show Calls Try.prog 20 #[.slice (some ⟨p, 0, none⟩) 2 2, .slice (some ⟨r, 0, none⟩) 2 2] w fun e w' => e = .returned (.bool true) ∧ KpS w w' from
    lists_any w _ 2 2 [n, 2] rfl (fun h => by cases h) (by decide) (ints_C2 h1) _ 2 2 [(1, 1), (n, 2147483648)] rfl (fun h => by cases h) (by decide) (prs_C4 h2))
  have HL2 := fun w (p r : Nat) (h1 : C3 w p (.int .i64 65536) (.int .i64 1) (.int .i64 (65537 - (i : Int)))) (h2 : C4 w r (.int .i64 a) (.int .i64 b) (.int .i64 1) (.int .i64 2)) => Lib.hid (show Calls Try.prog 20 #[.slice (some ⟨p, 0, none⟩) 3 3, .slice (some ⟨r, 0, none⟩) 2 2] w fun e w' => e = .returned (.bool true) ∧ KpS w w' from
    lists_any w _ 3 3 [65536, 1, 65537 - (i : Int)] rfl (fun h => by cases h) (by decide) (ints_C3 h1) _ 2 2 [(a, b), (1, 2)] rfl (fun h => by cases h) (by decide) (prs_C4 h2))
  have hqi : (i : Int) / 2 = (q : Int) := by omega
  have hqt : Int.tdiv (i : Int) 2 = (q : Int) := by rw [Int.tdiv_eq_ediv_of_nonneg (by omega), hqi]
  have hqM : (q : Int) < M := by omega
  have hq0 : (0 : Int) ≤ q := by omega
  have hqw : IntKind.i64.wrap (q : Int) = q := by rw [IntKind.wrap_i64]; omega
  have hsw : IntKind.i64.wrap (65537 - (i : Int)) = 65537 - (i : Int) := by rw [IntKind.wrap_i64]; omega
  have hg := Lib.hid hg0
  clear hq hi ha hd hg0
  refine wp_region_anyN (fun w' => w'.cell? ⟨bX, 0, none⟩ = some (.int .i64 a) ∧ w'.cell? ⟨bX, 1, none⟩ = some (.int .i64 b) ∧ w'.cell? ⟨gp, op + q * 2, none⟩ = some (.int .i64 c) ∧ w'.cell? ⟨gp, op + q * 2 + 1, none⟩ = some (.int .i64 d)) 32 (by kernel_rfl) ?_
  replace X := X.drew
  replace A1 := A1.drew
  replace A2 := A2.drew
  replace hg := Lib.hid hg.out.drew
  generalize w0.drew = w0 at *
  have hS : w0.cell? ⟨bX, 0, none⟩ = some (.int .i64 a) ∧ w0.cell? ⟨bX, 1, none⟩ = some (.int .i64 b) ∧ w0.cell? ⟨gp, op + q * 2, none⟩ = some (.int .i64 c) ∧ w0.cell? ⟨gp, op + q * 2 + 1, none⟩ = some (.int .i64 d) := ⟨X.c0, X.c1, A1.1, A2.1⟩
  refine anyN_take 0 (v := ?_) rfl (by kernel_rfl) (by kernel_rfl) (by kernel_rfl) (by kernel_rfl) (by kernel_rfl) (fun _ _ _ h => h) (Or.inl ⟨by rfl, ?_⟩) (by assumption) ?_
  rotate_left
  · intro w hSw
    obtain ⟨_, _, _, _⟩ := hSw
    go_simp
    try with_reducible rfl
  simp only [Act.put, List.setIfInBounds_toArray, List.set_cons_zero, List.set_cons_succ]
  refine anyN_take 1 (v := ?_) rfl (by kernel_rfl) (by kernel_rfl) (by kernel_rfl) (by kernel_rfl) (by kernel_rfl) (fun _ _ _ h => h) (Or.inl ⟨by rfl, ?_⟩) (by assumption) ?_
  rotate_left
  · intro w hSw
    obtain ⟨_, _, _, _⟩ := hSw
    go_simp
    try with_reducible rfl
  simp only [Act.put, List.setIfInBounds_toArray, List.set_cons_zero, List.set_cons_succ]
  refine anyN_take 2 (v := ?_) rfl (by kernel_rfl) (by kernel_rfl) (by kernel_rfl) (by kernel_rfl) (by kernel_rfl) (fun _ _ _ h => h) (Or.inl ⟨by rfl, ?_⟩) (by assumption) ?_
  rotate_left
  · intro w hSw
    obtain ⟨_, _, _, _⟩ := hSw
    go_simp
    try with_reducible rfl
  simp only [Act.put, List.setIfInBounds_toArray, List.set_cons_zero, List.set_cons_succ]
  refine anyN_take 3 (v := ?_) rfl (by kernel_rfl) (by kernel_rfl) (by kernel_rfl) (by kernel_rfl) (by kernel_rfl) (fun _ _ _ h => h) (Or.inl ⟨by rfl, ?_⟩) (by assumption) ?_
  rotate_left
  · intro w hSw
    obtain ⟨_, _, _, _⟩ := hSw
    go_simp
    try with_reducible rfl
  simp only [Act.put, List.setIfInBounds_toArray, List.set_cons_zero, List.set_cons_succ]
  refine anyN_take 4 (v := ?_) rfl (by kernel_rfl) (by kernel_rfl) (by kernel_rfl) (by kernel_rfl) (by kernel_rfl) (fun _ _ _ h => h) (Or.inl ⟨by rfl, ?_⟩) (by assumption) ?_
  rotate_left
  · intro w hSw
    obtain ⟨_, _, _, _⟩ := hSw
    go_simp
    try with_reducible rfl
  simp only [Act.put, List.setIfInBounds_toArray, List.set_cons_zero, List.set_cons_succ]
  refine anyN_take 5 (v := ?_) rfl (by kernel_rfl) (by kernel_rfl) (by kernel_rfl) (by kernel_rfl) (by kernel_rfl) (fun _ _ _ h => h) (Or.inl ⟨by rfl, ?_⟩) (by assumption) ?_
  rotate_left
  · intro w hSw
    obtain ⟨_, _, _, _⟩ := hSw
    go_simp
    try with_reducible rfl
  simp only [Act.put, List.setIfInBounds_toArray, List.set_cons_zero, List.set_cons_succ]
  refine anyN_take 6 (v := ?_) rfl (by kernel_rfl) (by kernel_rfl) (by kernel_rfl) (by kernel_rfl) (by kernel_rfl) (fun _ _ _ h => h) (Or.inl ⟨by rfl, ?_⟩) (by assumption) ?_
  rotate_left
  · intro w hSw
    obtain ⟨_, _, _, _⟩ := hSw
    go_simp
    try with_reducible rfl
  simp only [Act.put, List.setIfInBounds_toArray, List.set_cons_zero, List.set_cons_succ]
  refine anyN_one 7 rfl (by kernel_rfl) rfl ?_
  go_simp
  (with_reducible refine (HT _).out.mono ?_)
  rintro e wv1 ⟨rfl, hg1⟩
  have k1 := hg1.kp
  replace X := X.kp k1
  replace A1 := A1.kp k1
  replace A2 := A2.kp k1
  replace hg := Lib.hid (hg.out.trans hg1)
  clear k1 hg1
  dsimp only
  refine and_keep ⟨X.c0, X.c1, A1.1, A2.1⟩ (fun hS => ?_)
  refine anyN_take 8 (v := ?_) rfl (by kernel_rfl) (by kernel_rfl) (by kernel_rfl) (by kernel_rfl) (by kernel_rfl) (fun _ _ _ h => h) (Or.inl ⟨by rfl, ?_⟩) (by assumption) ?_
  rotate_left
  · intro w hSw
    obtain ⟨_, _, _, _⟩ := hSw
    go_simp
    try with_reducible rfl
  simp only [Act.put, List.setIfInBounds_toArray, List.set_cons_zero, List.set_cons_succ]
  refine anyN_take 9 (v := ?_) rfl (by kernel_rfl) (by kernel_rfl) (by kernel_rfl) (by kernel_rfl) (by kernel_rfl) (fun _ _ _ h => h) (Or.inl ⟨by rfl, ?_⟩) (by assumption) ?_
  rotate_left
  · intro w hSw
    obtain ⟨_, _, _, _⟩ := hSw
    go_simp
    try with_reducible rfl
  simp only [Act.put, List.setIfInBounds_toArray, List.set_cons_zero, List.set_cons_succ]
  refine anyN_take 10 (v := ?_) rfl (by kernel_rfl) (by kernel_rfl) (by kernel_rfl) (by kernel_rfl) (by kernel_rfl) (fun _ _ _ h => h) (Or.inl ⟨by rfl, ?_⟩) (by assumption) ?_
  rotate_left
  · intro w hSw
    obtain ⟨_, _, _, _⟩ := hSw
    go_simp
    try with_reducible rfl
  simp only [Act.put, List.setIfInBounds_toArray, List.set_cons_zero, List.set_cons_succ]
  refine anyN_take 12 (v := ?_) rfl (by kernel_rfl) (by kernel_rfl) (by kernel_rfl) (by kernel_rfl) (by kernel_rfl) (fun _ _ _ h => h) (Or.inl ⟨by rfl, ?_⟩) (by assumption) ?_
  rotate_left
  · intro w hSw
    obtain ⟨_, _, _, _⟩ := hSw
    go_simp
    try with_reducible rfl
  simp only [Act.put, List.setIfInBounds_toArray, List.set_cons_zero, List.set_cons_succ]
  refine anyN_take 13 (v := ?_) rfl (by kernel_rfl) (by kernel_rfl) (by kernel_rfl) (by kernel_rfl) (by kernel_rfl) (fun _ _ _ h => h) (Or.inl ⟨by rfl, ?_⟩) (by assumption) ?_
  rotate_left
  · intro w hSw
    obtain ⟨_, _, _, _⟩ := hSw
    go_simp
    try with_reducible rfl
  simp only [Act.put, List.setIfInBounds_toArray, List.set_cons_zero, List.set_cons_succ]
  refine anyN_take 14 (v := ?_) rfl (by kernel_rfl) (by kernel_rfl) (by kernel_rfl) (by kernel_rfl) (by kernel_rfl) (fun _ _ _ h => h) (Or.inl ⟨by rfl, ?_⟩) (by assumption) ?_
  rotate_left
  · intro w hSw
    obtain ⟨_, _, _, _⟩ := hSw
    go_simp
    try with_reducible rfl
  simp only [Act.put, List.setIfInBounds_toArray, List.set_cons_zero, List.set_cons_succ]
  refine anyN_twoG 11 15 rfl rfl (by kernel_rfl) (by rfl) (by rfl) ?_ ?_
  · go_simp
    have ne_L1_X : wv1.heap.size ≠ bX := Nat.ne_of_gt X.lt
    have ne_L1_A1 : wv1.heap.size ≠ gp := Nat.ne_of_gt A1.2
    have ne_L1_A2 : wv1.heap.size ≠ gp := Nat.ne_of_gt A2.2
    have le_L1 : W.heap.size ≤ wv1.heap.size := hg.out.kp.size
    have L1 := C2.new wv1 (.int .i64 n) (.int .i64 2) 3
    have FL1 := Fz.new wv1 #[.int .i64 n, .int .i64 2] 3
    replace X := X.alloc (.cells #[.int .i64 n, .int .i64 2] 3)
    replace A1 := A1.alloc (.cells #[.int .i64 n, .int .i64 2] 3)
    replace A2 := A2.alloc (.cells #[.int .i64 n, .int .i64 2] 3)
    replace hg := Lib.hid (hg.out.alloc (.cells #[.int .i64 n, .int .i64 2] 3))
    generalize wv1.alloc (.cells #[.int .i64 n, .int .i64 2] 3) = wa2 at *
    generalize wv1.heap.size = bL1 at *
    refine and_keep ⟨X.c0, X.c1, A1.1, A2.1⟩ (fun hS => ?_)
    refine anyN_oneG 15 rfl (by kernel_rfl) (by rfl) ?_
    go_simp
    have ne_L2_X : wa2.heap.size ≠ bX := Nat.ne_of_gt X.lt
    have ne_L2_A1 : wa2.heap.size ≠ gp := Nat.ne_of_gt A1.2
    have ne_L2_A2 : wa2.heap.size ≠ gp := Nat.ne_of_gt A2.2
    have ne_L2_L1 : wa2.heap.size ≠ bL1 := Nat.ne_of_gt L1.lt
    have le_L2 : W.heap.size ≤ wa2.heap.size := hg.out.kp.size
    have L2 := C4.new wa2 (.int .i64 1) (.int .i64 1) (.int .i64 n) (.int .i64 2147483648) 55
    have FL2 := Fz.new wa2 #[.int .i64 1, .int .i64 1, .int .i64 n, .int .i64 2147483648] 55
    replace X := X.alloc (.cells #[.int .i64 1, .int .i64 1, .int .i64 n, .int .i64 2147483648] 55)
    replace A1 := A1.alloc (.cells #[.int .i64 1, .int .i64 1, .int .i64 n, .int .i64 2147483648] 55)
    replace A2 := A2.alloc (.cells #[.int .i64 1, .int .i64 1, .int .i64 n, .int .i64 2147483648] 55)
    replace L1 := L1.alloc (.cells #[.int .i64 1, .int .i64 1, .int .i64 n, .int .i64 2147483648] 55)
    replace FL1 := FL1.alloc (.cells #[.int .i64 1, .int .i64 1, .int .i64 n, .int .i64 2147483648] 55)
    replace hg := Lib.hid (hg.out.alloc (.cells #[.int .i64 1, .int .i64 1, .int .i64 n, .int .i64 2147483648] 55))
    generalize wa2.alloc (.cells #[.int .i64 1, .int .i64 1, .int .i64 n, .int .i64 2147483648] 55) = wa3 at *
    generalize wa2.heap.size = bL2 at *
    refine and_keep ⟨X.c0, X.c1, A1.1, A2.1⟩ (fun hS => ?_)
    refine anyN_oneG 16 rfl (by kernel_rfl) (by rfl) ?_
    go_simp
    (with_reducible refine (HL1 _ _ _ L1 L2).out.mono ?_)
    rintro e wv4 ⟨rfl, hg1⟩
    have k1 := hg1.kp
    replace X := X.kp k1
    replace A1 := A1.kp k1
    replace A2 := A2.kp k1
    replace L1 := L1.kp k1
    replace FL1 := FL1.kp k1
    replace L2 := L2.kp k1
    replace FL2 := FL2.kp k1
    replace hg := Lib.hid (hg.out.trans hg1)
    clear k1 hg1
    dsimp only
    refine and_keep ⟨X.c0, X.c1, A1.1, A2.1⟩ (fun hS => ?_)
    refine anyN_take 17 (v := ?_) rfl (by kernel_rfl) (by kernel_rfl) (by kernel_rfl) (by kernel_rfl) (by kernel_rfl) (fun _ _ _ h => h) (Or.inl ⟨by rfl, ?_⟩) (by assumption) ?_
    rotate_left
    · intro w hSw
      obtain ⟨_, _, _, _⟩ := hSw
      go_simp
      try with_reducible rfl
    simp only [Act.put, List.setIfInBounds_toArray, List.set_cons_zero, List.set_cons_succ]
    refine anyN_take 18 (v := ?_) rfl (by kernel_rfl) (by kernel_rfl) (by kernel_rfl) (by kernel_rfl) (by kernel_rfl) (fun _ _ _ h => h) (Or.inl ⟨by rfl, ?_⟩) (by assumption) ?_
    rotate_left
    · intro w hSw
      obtain ⟨_, _, _, _⟩ := hSw
      go_simp
      try with_reducible rfl
    simp only [Act.put, List.setIfInBounds_toArray, List.set_cons_zero, List.set_cons_succ]
    refine anyN_take 19 (v := ?_) rfl (by kernel_rfl) (by kernel_rfl) (by kernel_rfl) (by kernel_rfl) (by kernel_rfl) (fun _ _ _ h => h) (Or.inl ⟨by rfl, ?_⟩) (by assumption) ?_
    rotate_left
    · intro w hSw
      obtain ⟨_, _, _, _⟩ := hSw
      go_simp
      try with_reducible rfl
    simp only [Act.put, List.setIfInBounds_toArray, List.set_cons_zero, List.set_cons_succ]
    refine anyN_take 20 (v := ?_) rfl (by kernel_rfl) (by kernel_rfl) (by kernel_rfl) (by kernel_rfl) (by kernel_rfl) (fun _ _ _ h => h) (Or.inl ⟨by rfl, ?_⟩) (by assumption) ?_
    rotate_left
    · intro w hSw
      obtain ⟨_, _, _, _⟩ := hSw
      go_simp
      try with_reducible rfl
    simp only [Act.put, List.setIfInBounds_toArray, List.set_cons_zero, List.set_cons_succ]
    refine anyN_take 21 (v := ?_) rfl (by kernel_rfl) (by kernel_rfl) (by kernel_rfl) (by kernel_rfl) (by kernel_rfl) (fun _ _ _ h => h) (Or.inl ⟨by rfl, ?_⟩) (by assumption) ?_
    rotate_left
    · intro w hSw
      obtain ⟨_, _, _, _⟩ := hSw
      go_simp
      try with_reducible rfl
    simp only [Act.put, List.setIfInBounds_toArray, List.set_cons_zero, List.set_cons_succ]
    refine anyN_take 23 (v := ?_) rfl (by kernel_rfl) (by kernel_rfl) (by kernel_rfl) (by kernel_rfl) (by kernel_rfl) (fun _ _ _ h => h) (Or.inl ⟨by rfl, ?_⟩) (by assumption) ?_
    rotate_left
    · intro w hSw
      obtain ⟨_, _, _, _⟩ := hSw
      go_simp
      try with_reducible rfl
    simp only [Act.put, List.setIfInBounds_toArray, List.set_cons_zero, List.set_cons_succ]
    refine anyN_take 24 (v := ?_) rfl (by kernel_rfl) (by kernel_rfl) (by kernel_rfl) (by kernel_rfl) (by kernel_rfl) (fun _ _ _ h => h) (Or.inl ⟨by rfl, ?_⟩) (by assumption) ?_
    rotate_left
    · intro w hSw
      obtain ⟨_, _, _, _⟩ := hSw
      go_simp
      try with_reducible rfl
    simp only [Act.put, List.setIfInBounds_toArray, List.set_cons_zero, List.set_cons_succ]
    refine anyN_take 25 (v := ?_) rfl (by kernel_rfl) (by kernel_rfl) (by kernel_rfl) (by kernel_rfl) (by kernel_rfl) (fun _ _ _ h => h) (Or.inl ⟨by rfl, ?_⟩) (by assumption) ?_
    rotate_left
    · intro w hSw
      obtain ⟨_, _, _, _⟩ := hSw
      go_simp
      try with_reducible rfl
    simp only [Act.put, List.setIfInBounds_toArray, List.set_cons_zero, List.set_cons_succ]
    refine anyN_take 26 (v := ?_) rfl (by kernel_rfl) (by kernel_rfl) (by kernel_rfl) (by kernel_rfl) (by kernel_rfl) (fun _ _ _ h => h) (Or.inl ⟨by rfl, ?_⟩) (by assumption) ?_
    rotate_left
    · intro w hSw
      obtain ⟨_, _, _, _⟩ := hSw
      go_simp
      try with_reducible rfl
    simp only [Act.put, List.setIfInBounds_toArray, List.set_cons_zero, List.set_cons_succ]
    refine anyN_take 27 (v := ?_) rfl (by kernel_rfl) (by kernel_rfl) (by kernel_rfl) (by kernel_rfl) (by kernel_rfl) (fun _ _ _ h => h) (Or.inl ⟨by rfl, ?_⟩) (by assumption) ?_
    rotate_left
    · intro w hSw
      obtain ⟨_, _, _, _⟩ := hSw
      go_simp
      try with_reducible rfl
    simp only [Act.put, List.setIfInBounds_toArray, List.set_cons_zero, List.set_cons_succ]
    refine anyN_take 28 (v := ?_) rfl (by kernel_rfl) (by kernel_rfl) (by kernel_rfl) (by kernel_rfl) (by kernel_rfl) (fun _ _ _ h => h) (Or.inl ⟨by rfl, ?_⟩) (by assumption) ?_
    rotate_left
    · intro w hSw
      obtain ⟨_, _, _, _⟩ := hSw
      go_simp
      try with_reducible rfl
    simp only [Act.put, List.setIfInBounds_toArray, List.set_cons_zero, List.set_cons_succ]
    refine anyN_twoG 22 29 rfl rfl (by kernel_rfl) (by rfl) (by rfl) ?_ ?_
    · go_simp
      have ne_L3_X : wv4.heap.size ≠ bX := Nat.ne_of_gt X.lt
      have ne_L3_A1 : wv4.heap.size ≠ gp := Nat.ne_of_gt A1.2
      have ne_L3_A2 : wv4.heap.size ≠ gp := Nat.ne_of_gt A2.2
      have ne_L3_L1 : wv4.heap.size ≠ bL1 := Nat.ne_of_gt L1.lt
      have ne_L3_L2 : wv4.heap.size ≠ bL2 := Nat.ne_of_gt L2.lt
      have le_L3 : W.heap.size ≤ wv4.heap.size := hg.out.kp.size
      have L3 := C3.new wv4 (.int .i64 65536) (.int .i64 1) (.int .i64 (65537 - (i : Int))) 3
      have FL3 := Fz.new wv4 #[.int .i64 65536, .int .i64 1, .int .i64 (65537 - (i : Int))] 3
      replace X := X.alloc (.cells #[.int .i64 65536, .int .i64 1, .int .i64 (65537 - (i : Int))] 3)
      replace A1 := A1.alloc (.cells #[.int .i64 65536, .int .i64 1, .int .i64 (65537 - (i : Int))] 3)
      replace A2 := A2.alloc (.cells #[.int .i64 65536, .int .i64 1, .int .i64 (65537 - (i : Int))] 3)
      replace L1 := L1.alloc (.cells #[.int .i64 65536, .int .i64 1, .int .i64 (65537 - (i : Int))] 3)
      replace FL1 := FL1.alloc (.cells #[.int .i64 65536, .int .i64 1, .int .i64 (65537 - (i : Int))] 3)
      replace L2 := L2.alloc (.cells #[.int .i64 65536, .int .i64 1, .int .i64 (65537 - (i : Int))] 3)
      replace FL2 := FL2.alloc (.cells #[.int .i64 65536, .int .i64 1, .int .i64 (65537 - (i : Int))] 3)
      replace hg := Lib.hid (hg.out.alloc (.cells #[.int .i64 65536, .int .i64 1, .int .i64 (65537 - (i : Int))] 3))
      generalize wv4.alloc (.cells #[.int .i64 65536, .int .i64 1, .int .i64 (65537 - (i : Int))] 3) = wa5 at *
      generalize wv4.heap.size = bL3 at *
      refine and_keep ⟨X.c0, X.c1, A1.1, A2.1⟩ (fun hS => ?_)
      refine anyN_oneG 29 rfl (by kernel_rfl) (by rfl) ?_
      go_simp
      have ne_L4_X : wa5.heap.size ≠ bX := Nat.ne_of_gt X.lt
      have ne_L4_A1 : wa5.heap.size ≠ gp := Nat.ne_of_gt A1.2
      have ne_L4_A2 : wa5.heap.size ≠ gp := Nat.ne_of_gt A2.2
      have ne_L4_L1 : wa5.heap.size ≠ bL1 := Nat.ne_of_gt L1.lt
      have ne_L4_L2 : wa5.heap.size ≠ bL2 := Nat.ne_of_gt L2.lt
      have ne_L4_L3 : wa5.heap.size ≠ bL3 := Nat.ne_of_gt L3.lt
      have le_L4 : W.heap.size ≤ wa5.heap.size := hg.out.kp.size
      have L4 := C4.new wa5 (.int .i64 a) (.int .i64 b) (.int .i64 1) (.int .i64 2) 55
      have FL4 := Fz.new wa5 #[.int .i64 a, .int .i64 b, .int .i64 1, .int .i64 2] 55
      replace X := X.alloc (.cells #[.int .i64 a, .int .i64 b, .int .i64 1, .int .i64 2] 55)
      replace A1 := A1.alloc (.cells #[.int .i64 a, .int .i64 b, .int .i64 1, .int .i64 2] 55)
      replace A2 := A2.alloc (.cells #[.int .i64 a, .int .i64 b, .int .i64 1, .int .i64 2] 55)
      replace L1 := L1.alloc (.cells #[.int .i64 a, .int .i64 b, .int .i64 1, .int .i64 2] 55)
      replace FL1 := FL1.alloc (.cells #[.int .i64 a, .int .i64 b, .int .i64 1, .int .i64 2] 55)
      replace L2 := L2.alloc (.cells #[.int .i64 a, .int .i64 b, .int .i64 1, .int .i64 2] 55)
      replace FL2 := FL2.alloc (.cells #[.int .i64 a, .int .i64 b, .int .i64 1, .int .i64 2] 55)
      replace L3 := L3.alloc (.cells #[.int .i64 a, .int .i64 b, .int .i64 1, .int .i64 2] 55)
      replace FL3 := FL3.alloc (.cells #[.int .i64 a, .int .i64 b, .int .i64 1, .int .i64 2] 55)
      replace hg := Lib.hid (hg.out.alloc (.cells #[.int .i64 a, .int .i64 b, .int .i64 1, .int .i64 2] 55))
      generalize wa5.alloc (.cells #[.int .i64 a, .int .i64 b, .int .i64 1, .int .i64 2] 55) = wa6 at *
      generalize wa5.heap.size = bL4 at *
      refine and_keep ⟨X.c0, X.c1, A1.1, A2.1⟩ (fun hS => ?_)
      refine anyN_oneG 30 rfl (by kernel_rfl) (by rfl) ?_
      go_simp
      (with_reducible refine (HL2 _ _ _ L3 L4).out.mono ?_)
      rintro e wv7 ⟨rfl, hg1⟩
      have k1 := hg1.kp
      replace X := X.kp k1
      replace A1 := A1.kp k1
      replace A2 := A2.kp k1
      replace L1 := L1.kp k1
      replace FL1 := FL1.kp k1
      replace L2 := L2.kp k1
      replace FL2 := FL2.kp k1
      replace L3 := L3.kp k1
      replace FL3 := FL3.kp k1
      replace L4 := L4.kp k1
      replace FL4 := FL4.kp k1
      replace hg := Lib.hid (hg.out.trans hg1)
      clear k1 hg1
      dsimp only
      refine and_keep ⟨X.c0, X.c1, A1.1, A2.1⟩ (fun hS => ?_)
      refine anyN_take 31 (v := ?_) rfl (by kernel_rfl) (by kernel_rfl) (by kernel_rfl) (by kernel_rfl) (by kernel_rfl) (fun _ _ _ h => h) (Or.inl ⟨by rfl, ?_⟩) (by assumption) ?_
      rotate_left
      · intro w hSw
        obtain ⟨_, _, _, _⟩ := hSw
        go_simp
        try with_reducible rfl
      simp only [Act.put, List.setIfInBounds_toArray, List.set_cons_zero, List.set_cons_succ]
      refine anyN_one 32 rfl (by kernel_rfl) rfl ?_
      go_simp
      refine anyN_done (by kernel_rfl) ?_
      clear hS
      refine NoPanic.normal (hexit _ _ _ _ _ _ _ _ _ _ _ _ _ _ _ _ _ _ _ _ _ _ _ _ _ _ _ _ _ _ _ _ _ ?_)
      exact hg.out
    · go_simp
      have ne_L4_X : wv4.heap.size ≠ bX := Nat.ne_of_gt X.lt
      have ne_L4_A1 : wv4.heap.size ≠ gp := Nat.ne_of_gt A1.2
      have ne_L4_A2 : wv4.heap.size ≠ gp := Nat.ne_of_gt A2.2
      have ne_L4_L1 : wv4.heap.size ≠ bL1 := Nat.ne_of_gt L1.lt
      have ne_L4_L2 : wv4.heap.size ≠ bL2 := Nat.ne_of_gt L2.lt
      have le_L4 : W.heap.size ≤ wv4.heap.size := hg.out.kp.size
      have L4 := C4.new wv4 (.int .i64 a) (.int .i64 b) (.int .i64 1) (.int .i64 2) 55
      have FL4 := Fz.new wv4 #[.int .i64 a, .int .i64 b, .int .i64 1, .int .i64 2] 55
      replace X := X.alloc (.cells #[.int .i64 a, .int .i64 b, .int .i64 1, .int .i64 2] 55)
      replace A1 := A1.alloc (.cells #[.int .i64 a, .int .i64 b, .int .i64 1, .int .i64 2] 55)
      replace A2 := A2.alloc (.cells #[.int .i64 a, .int .i64 b, .int .i64 1, .int .i64 2] 55)
      replace L1 := L1.alloc (.cells #[.int .i64 a, .int .i64 b, .int .i64 1, .int .i64 2] 55)
      replace FL1 := FL1.alloc (.cells #[.int .i64 a, .int .i64 b, .int .i64 1, .int .i64 2] 55)
      replace L2 := L2.alloc (.cells #[.int .i64 a, .int .i64 b, .int .i64 1, .int .i64 2] 55)
      replace FL2 := FL2.alloc (.cells #[.int .i64 a, .int .i64 b, .int .i64 1, .int .i64 2] 55)
      replace hg := Lib.hid (hg.out.alloc (.cells #[.int .i64 a, .int .i64 b, .int .i64 1, .int .i64 2] 55))
      generalize wv4.alloc (.cells #[.int .i64 a, .int .i64 b, .int .i64 1, .int .i64 2] 55) = wa8 at *
      generalize wv4.heap.size = bL4 at *
      refine and_keep ⟨X.c0, X.c1, A1.1, A2.1⟩ (fun hS => ?_)
      refine anyN_oneG 22 rfl (by kernel_rfl) (by rfl) ?_
      go_simp
      have ne_L3_X : wa8.heap.size ≠ bX := Nat.ne_of_gt X.lt
      have ne_L3_A1 : wa8.heap.size ≠ gp := Nat.ne_of_gt A1.2
      have ne_L3_A2 : wa8.heap.size ≠ gp := Nat.ne_of_gt A2.2
      have ne_L3_L1 : wa8.heap.size ≠ bL1 := Nat.ne_of_gt L1.lt
      have ne_L3_L2 : wa8.heap.size ≠ bL2 := Nat.ne_of_gt L2.lt
      have ne_L3_L4 : wa8.heap.size ≠ bL4 := Nat.ne_of_gt L4.lt
      have le_L3 : W.heap.size ≤ wa8.heap.size := hg.out.kp.size
      have L3 := C3.new wa8 (.int .i64 65536) (.int .i64 1) (.int .i64 (65537 - (i : Int))) 3
      have FL3 := Fz.new wa8 #[.int .i64 65536, .int .i64 1, .int .i64 (65537 - (i : Int))] 3
      replace X := X.alloc (.cells #[.int .i64 65536, .int .i64 1, .int .i64 (65537 - (i : Int))] 3)
      replace A1 := A1.alloc (.cells #[.int .i64 65536, .int .i64 1, .int .i64 (65537 - (i : Int))] 3)
      replace A2 := A2.alloc (.cells #[.int .i64 65536, .int .i64 1, .int .i64 (65537 - (i : Int))] 3)
      replace L1 := L1.alloc (.cells #[.int .i64 65536, .int .i64 1, .int .i64 (65537 - (i : Int))] 3)
      replace FL1 := FL1.alloc (.cells #[.int .i64 65536, .int .i64 1, .int .i64 (65537 - (i : Int))] 3)
      replace L2 := L2.alloc (.cells #[.int .i64 65536, .int .i64 1, .int .i64 (65537 - (i : Int))] 3)
      replace FL2 := FL2.alloc (.cells #[.int .i64 65536, .int .i64 1, .int .i64 (65537 - (i : Int))] 3)
      replace L4 := L4.alloc (.cells #[.int .i64 65536, .int .i64 1, .int .i64 (65537 - (i : Int))] 3)
      replace FL4 := FL4.alloc (.cells #[.int .i64 65536, .int .i64 1, .int .i64 (65537 - (i : Int))] 3)
      replace hg := Lib.hid (hg.out.alloc (.cells #[.int .i64 65536, .int .i64 1, .int .i64 (65537 - (i : Int))] 3))
      generalize wa8.alloc (.cells #[.int .i64 65536, .int .i64 1, .int .i64 (65537 - (i : Int))] 3) = wa9 at *
      generalize wa8.heap.size = bL3 at *
      refine and_keep ⟨X.c0, X.c1, A1.1, A2.1⟩ (fun hS => ?_)
      refine anyN_oneG 30 rfl (by kernel_rfl) (by rfl) ?_
      go_simp
      (with_reducible refine (HL2 _ _ _ L3 L4).out.mono ?_)
      rintro e wv10 ⟨rfl, hg1⟩
      have k1 := hg1.kp
      replace X := X.kp k1
      replace A1 := A1.kp k1
      replace A2 := A2.kp k1
      replace L1 := L1.kp k1
      replace FL1 := FL1.kp k1
      replace L2 := L2.kp k1
      replace FL2 := FL2.kp k1
      replace L4 := L4.kp k1
      replace FL4 := FL4.kp k1
      replace L3 := L3.kp k1
      replace FL3 := FL3.kp k1
      replace hg := Lib.hid (hg.out.trans hg1)
      clear k1 hg1
      dsimp only
      refine and_keep ⟨X.c0, X.c1, A1.1, A2.1⟩ (fun hS => ?_)
      refine anyN_take 31 (v := ?_) rfl (by kernel_rfl) (by kernel_rfl) (by kernel_rfl) (by kernel_rfl) (by kernel_rfl) (fun _ _ _ h => h) (Or.inl ⟨by rfl, ?_⟩) (by assumption) ?_
      rotate_left
      · intro w hSw
        obtain ⟨_, _, _, _⟩ := hSw
        go_simp
        try with_reducible rfl
      simp only [Act.put, List.setIfInBounds_toArray, List.set_cons_zero, List.set_cons_succ]
      refine anyN_one 32 rfl (by kernel_rfl) rfl ?_
      go_simp
      refine anyN_done (by kernel_rfl) ?_
      clear hS
      refine NoPanic.normal (hexit _ _ _ _ _ _ _ _ _ _ _ _ _ _ _ _ _ _ _ _ _ _ _ _ _ _ _ _ _ _ _ _ _ ?_)
      exact hg.out
  · go_simp
    have ne_L2_X : wv1.heap.size ≠ bX := Nat.ne_of_gt X.lt
    have ne_L2_A1 : wv1.heap.size ≠ gp := Nat.ne_of_gt A1.2
    have ne_L2_A2 : wv1.heap.size ≠ gp := Nat.ne_of_gt A2.2
    have le_L2 : W.heap.size ≤ wv1.heap.size := hg.out.kp.size
    have L2 := C4.new wv1 (.int .i64 1) (.int .i64 1) (.int .i64 n) (.int .i64 2147483648) 55
    have FL2 := Fz.new wv1 #[.int .i64 1, .int .i64 1, .int .i64 n, .int .i64 2147483648] 55
    replace X := X.alloc (.cells #[.int .i64 1, .int .i64 1, .int .i64 n, .int .i64 2147483648] 55)
    replace A1 := A1.alloc (.cells #[.int .i64 1, .int .i64 1, .int .i64 n, .int .i64 2147483648] 55)
    replace A2 := A2.alloc (.cells #[.int .i64 1, .int .i64 1, .int .i64 n, .int .i64 2147483648] 55)
    replace hg := Lib.hid (hg.out.alloc (.cells #[.int .i64 1, .int .i64 1, .int .i64 n, .int .i64 2147483648] 55))
    generalize wv1.alloc (.cells #[.int .i64 1, .int .i64 1, .int .i64 n, .int .i64 2147483648] 55) = wa11 at *
    generalize wv1.heap.size = bL2 at *
    refine and_keep ⟨X.c0, X.c1, A1.1, A2.1⟩ (fun hS => ?_)
    refine anyN_oneG 11 rfl (by kernel_rfl) (by rfl) ?_
    go_simp
    have ne_L1_X : wa11.heap.size ≠ bX := Nat.ne_of_gt X.lt
    have ne_L1_A1 : wa11.heap.size ≠ gp := Nat.ne_of_gt A1.2
    have ne_L1_A2 : wa11.heap.size ≠ gp := Nat.ne_of_gt A2.2
    have ne_L1_L2 : wa11.heap.size ≠ bL2 := Nat.ne_of_gt L2.lt
    have le_L1 : W.heap.size ≤ wa11.heap.size := hg.out.kp.size
    have L1 := C2.new wa11 (.int .i64 n) (.int .i64 2) 3
    have FL1 := Fz.new wa11 #[.int .i64 n, .int .i64 2] 3
    replace X := X.alloc (.cells #[.int .i64 n, .int .i64 2] 3)
    replace A1 := A1.alloc (.cells #[.int .i64 n, .int .i64 2] 3)
    replace A2 := A2.alloc (.cells #[.int .i64 n, .int .i64 2] 3)
    replace L2 := L2.alloc (.cells #[.int .i64 n, .int .i64 2] 3)
    replace FL2 := FL2.alloc (.cells #[.int .i64 n, .int .i64 2] 3)
    replace hg := Lib.hid (hg.out.alloc (.cells #[.int .i64 n, .int .i64 2] 3))
    generalize wa11.alloc (.cells #[.int .i64 n, .int .i64 2] 3) = wa12 at *
    generalize wa11.heap.size = bL1 at *
    refine and_keep ⟨X.c0, X.c1, A1.1, A2.1⟩ (fun hS => ?_)
    refine anyN_oneG 16 rfl (by kernel_rfl) (by rfl) ?_
    go_simp
    (with_reducible refine (HL1 _ _ _ L1 L2).out.mono ?_)
    rintro e wv13 ⟨rfl, hg1⟩
    have k1 := hg1.kp
    replace X := X.kp k1
    replace A1 := A1.kp k1
    replace A2 := A2.kp k1
    replace L2 := L2.kp k1
    replace FL2 := FL2.kp k1
    replace L1 := L1.kp k1
    replace FL1 := FL1.kp k1
    replace hg := Lib.hid (hg.out.trans hg1)
    clear k1 hg1
    dsimp only
    refine and_keep ⟨X.c0, X.c1, A1.1, A2.1⟩ (fun hS => ?_)
    refine anyN_take 17 (v := ?_) rfl (by kernel_rfl) (by kernel_rfl) (by kernel_rfl) (by kernel_rfl) (by kernel_rfl) (fun _ _ _ h => h) (Or.inl ⟨by rfl, ?_⟩) (by assumption) ?_
    rotate_left
    · intro w hSw
      obtain ⟨_, _, _, _⟩ := hSw
      go_simp
      try with_reducible rfl
    simp only [Act.put, List.setIfInBounds_toArray, List.set_cons_zero, List.set_cons_succ]
    refine anyN_take 18 (v := ?_) rfl (by kernel_rfl) (by kernel_rfl) (by kernel_rfl) (by kernel_rfl) (by kernel_rfl) (fun _ _ _ h => h) (Or.inl ⟨by rfl, ?_⟩) (by assumption) ?_
    rotate_left
    · intro w hSw
      obtain ⟨_, _, _, _⟩ := hSw
      go_simp
      try with_reducible rfl
    simp only [Act.put, List.setIfInBounds_toArray, List.set_cons_zero, List.set_cons_succ]
    refine anyN_take 19 (v := ?_) rfl (by kernel_rfl) (by kernel_rfl) (by kernel_rfl) (by kernel_rfl) (by kernel_rfl) (fun _ _ _ h => h) (Or.inl ⟨by rfl, ?_⟩) (by assumption) ?_
    rotate_left
    · intro w hSw
      obtain ⟨_, _, _, _⟩ := hSw
      go_simp
      try with_reducible rfl
    simp only [Act.put, List.setIfInBounds_toArray, List.set_cons_zero, List.set_cons_succ]
    refine anyN_take 20 (v := ?_) rfl (by kernel_rfl) (by kernel_rfl) (by kernel_rfl) (by kernel_rfl) (by kernel_rfl) (fun _ _ _ h => h) (Or.inl ⟨by rfl, ?_⟩) (by assumption) ?_
    rotate_left
    · intro w hSw
      obtain ⟨_, _, _, _⟩ := hSw
      go_simp
      try with_reducible rfl
    simp only [Act.put, List.setIfInBounds_toArray, List.set_cons_zero, List.set_cons_succ]
    refine anyN_take 21 (v := ?_) rfl (by kernel_rfl) (by kernel_rfl) (by kernel_rfl) (by kernel_rfl) (by kernel_rfl) (fun _ _ _ h => h) (Or.inl ⟨by rfl, ?_⟩) (by assumption) ?_
    rotate_left
    · intro w hSw
      obtain ⟨_, _, _, _⟩ := hSw
      go_simp
      try with_reducible rfl
    simp only [Act.put, List.setIfInBounds_toArray, List.set_cons_zero, List.set_cons_succ]
    refine anyN_take 23 (v := ?_) rfl (by kernel_rfl) (by kernel_rfl) (by kernel_rfl) (by kernel_rfl) (by kernel_rfl) (fun _ _ _ h => h) (Or.inl ⟨by rfl, ?_⟩) (by assumption) ?_
    rotate_left
    · intro w hSw
      obtain ⟨_, _, _, _⟩ := hSw
      go_simp
      try with_reducible rfl
    simp only [Act.put, List.setIfInBounds_toArray, List.set_cons_zero, List.set_cons_succ]
    refine anyN_take 24 (v := ?_) rfl (by kernel_rfl) (by kernel_rfl) (by kernel_rfl) (by kernel_rfl) (by kernel_rfl) (fun _ _ _ h => h) (Or.inl ⟨by rfl, ?_⟩) (by assumption) ?_
    rotate_left
    · intro w hSw
      obtain ⟨_, _, _, _⟩ := hSw
      go_simp
      try with_reducible rfl
    simp only [Act.put, List.setIfInBounds_toArray, List.set_cons_zero, List.set_cons_succ]
    refine anyN_take 25 (v := ?_) rfl (by kernel_rfl) (by kernel_rfl) (by kernel_rfl) (by kernel_rfl) (by kernel_rfl) (fun _ _ _ h => h) (Or.inl ⟨by rfl, ?_⟩) (by assumption) ?_
    rotate_left
    · intro w hSw
      obtain ⟨_, _, _, _⟩ := hSw
      go_simp
      try with_reducible rfl
    simp only [Act.put, List.setIfInBounds_toArray, List.set_cons_zero, List.set_cons_succ]
    refine anyN_take 26 (v := ?_) rfl (by kernel_rfl) (by kernel_rfl) (by kernel_rfl) (by kernel_rfl) (by kernel_rfl) (fun _ _ _ h => h) (Or.inl ⟨by rfl, ?_⟩) (by assumption) ?_
    rotate_left
    · intro w hSw
      obtain ⟨_, _, _, _⟩ := hSw
      go_simp
      try with_reducible rfl
    simp only [Act.put, List.setIfInBounds_toArray, List.set_cons_zero, List.set_cons_succ]
    refine anyN_take 27 (v := ?_) rfl (by kernel_rfl) (by kernel_rfl) (by kernel_rfl) (by kernel_rfl) (by kernel_rfl) (fun _ _ _ h => h) (Or.inl ⟨by rfl, ?_⟩) (by assumption) ?_
    rotate_left
    · intro w hSw
      obtain ⟨_, _, _, _⟩ := hSw
      go_simp
      try with_reducible rfl
    simp only [Act.put, List.setIfInBounds_toArray, List.set_cons_zero, List.set_cons_succ]
    refine anyN_take 28 (v := ?_) rfl (by kernel_rfl) (by kernel_rfl) (by kernel_rfl) (by kernel_rfl) (by kernel_rfl) (fun _ _ _ h => h) (Or.inl ⟨by rfl, ?_⟩) (by assumption) ?_
    rotate_left
    · intro w hSw
      obtain ⟨_, _, _, _⟩ := hSw
      go_simp
      try with_reducible rfl
    simp only [Act.put, List.setIfInBounds_toArray, List.set_cons_zero, List.set_cons_succ]
    refine anyN_twoG 22 29 rfl rfl (by kernel_rfl) (by rfl) (by rfl) ?_ ?_
    · go_simp
      have ne_L3_X : wv13.heap.size ≠ bX := Nat.ne_of_gt X.lt
      have ne_L3_A1 : wv13.heap.size ≠ gp := Nat.ne_of_gt A1.2
      have ne_L3_A2 : wv13.heap.size ≠ gp := Nat.ne_of_gt A2.2
      have ne_L3_L2 : wv13.heap.size ≠ bL2 := Nat.ne_of_gt L2.lt
      have ne_L3_L1 : wv13.heap.size ≠ bL1 := Nat.ne_of_gt L1.lt
      have le_L3 : W.heap.size ≤ wv13.heap.size := hg.out.kp.size
      have L3 := C3.new wv13 (.int .i64 65536) (.int .i64 1) (.int .i64 (65537 - (i : Int))) 3
      have FL3 := Fz.new wv13 #[.int .i64 65536, .int .i64 1, .int .i64 (65537 - (i : Int))] 3
      replace X := X.alloc (.cells #[.int .i64 65536, .int .i64 1, .int .i64 (65537 - (i : Int))] 3)
      replace A1 := A1.alloc (.cells #[.int .i64 65536, .int .i64 1, .int .i64 (65537 - (i : Int))] 3)
      replace A2 := A2.alloc (.cells #[.int .i64 65536, .int .i64 1, .int .i64 (65537 - (i : Int))] 3)
      replace L2 := L2.alloc (.cells #[.int .i64 65536, .int .i64 1, .int .i64 (65537 - (i : Int))] 3)
      replace FL2 := FL2.alloc (.cells #[.int .i64 65536, .int .i64 1, .int .i64 (65537 - (i : Int))] 3)
      replace L1 := L1.alloc (.cells #[.int .i64 65536, .int .i64 1, .int .i64 (65537 - (i : Int))] 3)
      replace FL1 := FL1.alloc (.cells #[.int .i64 65536, .int .i64 1, .int .i64 (65537 - (i : Int))] 3)
      replace hg := Lib.hid (hg.out.alloc (.cells #[.int .i64 65536, .int .i64 1, .int .i64 (65537 - (i : Int))] 3))
      generalize wv13.alloc (.cells #[.int .i64 65536, .int .i64 1, .int .i64 (65537 - (i : Int))] 3) = wa14 at *
      generalize wv13.heap.size = bL3 at *
      refine and_keep ⟨X.c0, X.c1, A1.1, A2.1⟩ (fun hS => ?_)
      refine anyN_oneG 29 rfl (by kernel_rfl) (by rfl) ?_
      go_simp
      have ne_L4_X : wa14.heap.size ≠ bX := Nat.ne_of_gt X.lt
      have ne_L4_A1 : wa14.heap.size ≠ gp := Nat.ne_of_gt A1.2
      have ne_L4_A2 : wa14.heap.size ≠ gp := Nat.ne_of_gt A2.2
      have ne_L4_L2 : wa14.heap.size ≠ bL2 := Nat.ne_of_gt L2.lt
      have ne_L4_L1 : wa14.heap.size ≠ bL1 := Nat.ne_of_gt L1.lt
      have ne_L4_L3 : wa14.heap.size ≠ bL3 := Nat.ne_of_gt L3.lt
      have le_L4 : W.heap.size ≤ wa14.heap.size := hg.out.kp.size
      have L4 := C4.new wa14 (.int .i64 a) (.int .i64 b) (.int .i64 1) (.int .i64 2) 55
      have FL4 := Fz.new wa14 #[.int .i64 a, .int .i64 b, .int .i64 1, .int .i64 2] 55
      replace X := X.alloc (.cells #[.int .i64 a, .int .i64 b, .int .i64 1, .int .i64 2] 55)
      replace A1 := A1.alloc (.cells #[.int .i64 a, .int .i64 b, .int .i64 1, .int .i64 2] 55)
      replace A2 := A2.alloc (.cells #[.int .i64 a, .int .i64 b, .int .i64 1, .int .i64 2] 55)
      replace L2 := L2.alloc (.cells #[.int .i64 a, .int .i64 b, .int .i64 1, .int .i64 2] 55)
      replace FL2 := FL2.alloc (.cells #[.int .i64 a, .int .i64 b, .int .i64 1, .int .i64 2] 55)
      replace L1 := L1.alloc (.cells #[.int .i64 a, .int .i64 b, .int .i64 1, .int .i64 2] 55)
      replace FL1 := FL1.alloc (.cells #[.int .i64 a, .int .i64 b, .int .i64 1, .int .i64 2] 55)
      replace L3 := L3.alloc (.cells #[.int .i64 a, .int .i64 b, .int .i64 1, .int .i64 2] 55)
      replace FL3 := FL3.alloc (.cells #[.int .i64 a, .int .i64 b, .int .i64 1, .int .i64 2] 55)
      replace hg := Lib.hid (hg.out.alloc (.cells #[.int .i64 a, .int .i64 b, .int .i64 1, .int .i64 2] 55))
      generalize wa14.alloc (.cells #[.int .i64 a, .int .i64 b, .int .i64 1, .int .i64 2] 55) = wa15 at *
      generalize wa14.heap.size = bL4 at *
      refine and_keep ⟨X.c0, X.c1, A1.1, A2.1⟩ (fun hS => ?_)
      refine anyN_oneG 30 rfl (by kernel_rfl) (by rfl) ?_
      go_simp
      (with_reducible refine (HL2 _ _ _ L3 L4).out.mono ?_)
      rintro e wv16 ⟨rfl, hg1⟩
      have k1 := hg1.kp
      replace X := X.kp k1
      replace A1 := A1.kp k1
      replace A2 := A2.kp k1
      replace L2 := L2.kp k1
      replace FL2 := FL2.kp k1
      replace L1 := L1.kp k1
      replace FL1 := FL1.kp k1
      replace L3 := L3.kp k1
      replace FL3 := FL3.kp k1
      replace L4 := L4.kp k1
      replace FL4 := FL4.kp k1
      replace hg := Lib.hid (hg.out.trans hg1)
      clear k1 hg1
      dsimp only
      refine and_keep ⟨X.c0, X.c1, A1.1, A2.1⟩ (fun hS => ?_)
      refine anyN_take 31 (v := ?_) rfl (by kernel_rfl) (by kernel_rfl) (by kernel_rfl) (by kernel_rfl) (by kernel_rfl) (fun _ _ _ h => h) (Or.inl ⟨by rfl, ?_⟩) (by assumption) ?_
      rotate_left
      · intro w hSw
        obtain ⟨_, _, _, _⟩ := hSw
        go_simp
        try with_reducible rfl
      simp only [Act.put, List.setIfInBounds_toArray, List.set_cons_zero, List.set_cons_succ]
      refine anyN_one 32 rfl (by kernel_rfl) rfl ?_
      go_simp
      refine anyN_done (by kernel_rfl) ?_
      clear hS
      refine NoPanic.normal (hexit _ _ _ _ _ _ _ _ _ _ _ _ _ _ _ _ _ _ _ _ _ _ _ _ _ _ _ _ _ _ _ _ _ ?_)
      exact hg.out
    · go_simp
      have ne_L4_X : wv13.heap.size ≠ bX := Nat.ne_of_gt X.lt
      have ne_L4_A1 : wv13.heap.size ≠ gp := Nat.ne_of_gt A1.2
      have ne_L4_A2 : wv13.heap.size ≠ gp := Nat.ne_of_gt A2.2
      have ne_L4_L2 : wv13.heap.size ≠ bL2 := Nat.ne_of_gt L2.lt
      have ne_L4_L1 : wv13.heap.size ≠ bL1 := Nat.ne_of_gt L1.lt
      have le_L4 : W.heap.size ≤ wv13.heap.size := hg.out.kp.size
      have L4 := C4.new wv13 (.int .i64 a) (.int .i64 b) (.int .i64 1) (.int .i64 2) 55
      have FL4 := Fz.new wv13 #[.int .i64 a, .int .i64 b, .int .i64 1, .int .i64 2] 55
      replace X := X.alloc (.cells #[.int .i64 a, .int .i64 b, .int .i64 1, .int .i64 2] 55)
      replace A1 := A1.alloc (.cells #[.int .i64 a, .int .i64 b, .int .i64 1, .int .i64 2] 55)
      replace A2 := A2.alloc (.cells #[.int .i64 a, .int .i64 b, .int .i64 1, .int .i64 2] 55)
      replace L2 := L2.alloc (.cells #[.int .i64 a, .int .i64 b, .int .i64 1, .int .i64 2] 55)
      replace FL2 := FL2.alloc (.cells #[.int .i64 a, .int .i64 b, .int .i64 1, .int .i64 2] 55)
      replace L1 := L1.alloc (.cells #[.int .i64 a, .int .i64 b, .int .i64 1, .int .i64 2] 55)
      replace FL1 := FL1.alloc (.cells #[.int .i64 a, .int .i64 b, .int .i64 1, .int .i64 2] 55)
      replace hg := Lib.hid (hg.out.alloc (.cells #[.int .i64 a, .int .i64 b, .int .i64 1, .int .i64 2] 55))
      generalize wv13.alloc (.cells #[.int .i64 a, .int .i64 b, .int .i64 1, .int .i64 2] 55) = wa17 at *
      generalize wv13.heap.size = bL4 at *
      refine and_keep ⟨X.c0, X.c1, A1.1, A2.1⟩ (fun hS => ?_)
      refine anyN_oneG 22 rfl (by kernel_rfl) (by rfl) ?_
      go_simp
      have ne_L3_X : wa17.heap.size ≠ bX := Nat.ne_of_gt X.lt
      have ne_L3_A1 : wa17.heap.size ≠ gp := Nat.ne_of_gt A1.2
      have ne_L3_A2 : wa17.heap.size ≠ gp := Nat.ne_of_gt A2.2
      have ne_L3_L2 : wa17.heap.size ≠ bL2 := Nat.ne_of_gt L2.lt
      have ne_L3_L1 : wa17.heap.size ≠ bL1 := Nat.ne_of_gt L1.lt
      have ne_L3_L4 : wa17.heap.size ≠ bL4 := Nat.ne_of_gt L4.lt
      have le_L3 : W.heap.size ≤ wa17.heap.size := hg.out.kp.size
      have L3 := C3.new wa17 (.int .i64 65536) (.int .i64 1) (.int .i64 (65537 - (i : Int))) 3
      have FL3 := Fz.new wa17 #[.int .i64 65536, .int .i64 1, .int .i64 (65537 - (i : Int))] 3
      replace X := X.alloc (.cells #[.int .i64 65536, .int .i64 1, .int .i64 (65537 - (i : Int))] 3)
      replace A1 := A1.alloc (.cells #[.int .i64 65536, .int .i64 1, .int .i64 (65537 - (i : Int))] 3)
      replace A2 := A2.alloc (.cells #[.int .i64 65536, .int .i64 1, .int .i64 (65537 - (i : Int))] 3)
      replace L2 := L2.alloc (.cells #[.int .i64 65536, .int .i64 1, .int .i64 (65537 - (i : Int))] 3)
      replace FL2 := FL2.alloc (.cells #[.int .i64 65536, .int .i64 1, .int .i64 (65537 - (i : Int))] 3)
      replace L1 := L1.alloc (.cells #[.int .i64 65536, .int .i64 1, .int .i64 (65537 - (i : Int))] 3)
      replace FL1 := FL1.alloc (.cells #[.int .i64 65536, .int .i64 1, .int .i64 (65537 - (i : Int))] 3)
      replace L4 := L4.alloc (.cells #[.int .i64 65536, .int .i64 1, .int .i64 (65537 - (i : Int))] 3)
      replace FL4 := FL4.alloc (.cells #[.int .i64 65536, .int .i64 1, .int .i64 (65537 - (i : Int))] 3)
      replace hg := Lib.hid (hg.out.alloc (.cells #[.int .i64 65536, .int .i64 1, .int .i64 (65537 - (i : Int))] 3))
      generalize wa17.alloc (.cells #[.int .i64 65536, .int .i64 1, .int .i64 (65537 - (i : Int))] 3) = wa18 at *
      generalize wa17.heap.size = bL3 at *
      refine and_keep ⟨X.c0, X.c1, A1.1, A2.1⟩ (fun hS => ?_)
      refine anyN_oneG 30 rfl (by kernel_rfl) (by rfl) ?_
      go_simp
      (with_reducible refine (HL2 _ _ _ L3 L4).out.mono ?_)
      rintro e wv19 ⟨rfl, hg1⟩
      have k1 := hg1.kp
      replace X := X.kp k1
      replace A1 := A1.kp k1
      replace A2 := A2.kp k1
      replace L2 := L2.kp k1
      replace FL2 := FL2.kp k1
      replace L1 := L1.kp k1
      replace FL1 := FL1.kp k1
      replace L4 := L4.kp k1
      replace FL4 := FL4.kp k1
      replace L3 := L3.kp k1
      replace FL3 := FL3.kp k1
      replace hg := Lib.hid (hg.out.trans hg1)
      clear k1 hg1
      dsimp only
      refine and_keep ⟨X.c0, X.c1, A1.1, A2.1⟩ (fun hS => ?_)
      refine anyN_take 31 (v := ?_) rfl (by kernel_rfl) (by kernel_rfl) (by kernel_rfl) (by kernel_rfl) (by kernel_rfl) (fun _ _ _ h => h) (Or.inl ⟨by rfl, ?_⟩) (by assumption) ?_
      rotate_left
      · intro w hSw
        obtain ⟨_, _, _, _⟩ := hSw
        go_simp
        try with_reducible rfl
      simp only [Act.put, List.setIfInBounds_toArray, List.set_cons_zero, List.set_cons_succ]
      refine anyN_one 32 rfl (by kernel_rfl) rfl ?_
      go_simp
      refine anyN_done (by kernel_rfl) ?_
      clear hS
      refine NoPanic.normal (hexit _ _ _ _ _ _ _ _ _ _ _ _ _ _ _ _ _ _ _ _ _ _ _ _ _ _ _ _ _ _ _ _ _ ?_)
      exact hg.out
end Go.Proofs.Ytjffikiebeneaaa
