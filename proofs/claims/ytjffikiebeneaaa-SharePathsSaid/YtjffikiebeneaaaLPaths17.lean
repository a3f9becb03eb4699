/-
  The law SharePaths, walked.
-/
import Derived.Test.YtjffikiebeneaaaSums17
import Derived.Test.YtjffikiebeneaaaCut4
import Derived.Deep.CutRange
import Derived.Deep.RegionHeld3
namespace Go.Proofs.Ytjffikiebeneaaa
open Go.RowKit

/-- Products of small fractions. -/
theorem times_of {u V w T m k : Int} (hu : 0 ≤ u) (hV : 0 < V) (hw : 0 ≤ w) (hT : 0 < T) (h1 : u ≤ m) (h2 : V ≤ m) (h3 : w ≤ k) (h4 : T ≤ k) (hmk : m * k ≤ 2147483648) (hm : m ≤ 2147483648) (hk : k ≤ 2147483648) :
    times3 (ofN u V) (ofD u V) (ofN w T) (ofD w T) = (ofN (u * w) (V * T), ofD (u * w) (V * T), 0) := by
  obtain ⟨_, s1, q1⟩ := of_small hu hV h1 h2 hm
  obtain ⟨_, s2, q2⟩ := of_small hw hT h3 h4 hk
  obtain ⟨e0, e1, e2⟩ := tm_spec s1.r s2.r
  have p1 := s1.d0
  have p2 := s2.d0
  have n1 := Int.mul_nonneg s1.n0 s2.n0
  have z := Int.mul_pos p1 p2
  have a0 := Int.mul_nonneg hu hw
  have a1 := Int.mul_pos hV hT
  have b0 := mul_le' hu h1 hw h3
  have b1 := mul_le' (Int.le_of_lt hV) h2 (Int.le_of_lt hT) h4
  have hx : ofN u V * ofN w T * (V * T) = u * w * (ofD u V * ofD w T) := by
    clear e0 e1 e2 s1 s2
    generalize ofN u V = a at *
    generalize ofD u V = b at *
    generalize ofN w T = c at *
    generalize ofD w T = d at *
    grind
  have hc := of_congr n1 z a0 a1 hx
  have hf := of_fits a0 a1 (by omega) (by omega)
  unfold times3
  rw [e0, e1, e2, hc.1, hc.2.1, hc.2.2, hf.1]
theorem one_times {w T k : Int} (hw : 0 ≤ w) (hT : 0 < T) (h3 : w ≤ k) (h4 : T ≤ k) (hk : k ≤ 2147483648) : times3 1 1 (ofN w T) (ofD w T) = (ofN w T, ofD w T, 0) := by
  have h := times_of (u := 1) (V := 1) (m := 1) (k := k) (by decide) (by decide) hw hT (by decide) (by decide) h3 h4 (by omega) (by decide) hk
  have o := of_one (T := 1) (by decide)
  rw [o.1, o.2.1, Int.one_mul, Int.one_mul] at h
  exact h
theorem times_one {u V m : Int} (hu : 0 ≤ u) (hV : 0 < V) (h1 : u ≤ m) (h2 : V ≤ m) (hm : m ≤ 2147483648) : times3 (ofN u V) (ofD u V) 1 1 = (ofN u V, ofD u V, 0) := by
  have h := times_of (w := 1) (T := 1) (m := m) (k := 1) hu hV (by decide) (by decide) h1 h2 (by decide) (by decide) (by omega) hm (by decide)
  have o := of_one (T := 1) (by decide)
  rw [o.1, o.2.1, Int.mul_one, Int.mul_one] at h
  exact h
theorem lev_mk {a T : Int} (h0 : 0 ≤ a) (h1 : a ≤ T) (h2 : 1 ≤ T) (h3 : T ≤ 2147483648) : levB (a, T) = true := decide_eq_true ⟨h2, h3, h0, h1⟩
theorem path_two {a T b U : Int} (ha : 0 ≤ a) (haT : a ≤ T) (hT : 0 < T) (T1 : T ≤ 1200) (hb : 0 ≤ b) (hbU : b ≤ U) (hU : 0 < U) (U1 : U ≤ 1200) :
    path3 [(a, T), (b, U)] = (ofN (a * b) (T * U), ofD (a * b) (T * U), 0) := by
  have hl : [(a, T), (b, U)].all levB = true := by simp [lev_mk ha haT hT (by omega), lev_mk hb hbU hU (by omega)]
  have e1 := one_times (w := a) (T := T) (k := 1200) ha hT (by omega) T1 (by decide)
  have e2 := times_of (u := a) (V := T) (w := b) (T := U) (m := 1200) (k := 1200) ha hT hb hU (by omega) T1 (by omega) U1 (by decide) (by decide) (by decide)
  unfold path3
  rw [hl, if_pos rfl, List.map_cons, List.map_cons, List.map_nil, foldS_cons]
  unfold of2
  dsimp only
  rw [e1]
  dsimp only
  rw [if_pos rfl, foldS_cons]
  dsimp only
  rw [e2]
  dsimp only
  rw [if_pos rfl]
  rfl
theorem path_three {a T b U t : Int} (ha : 0 ≤ a) (haT : a ≤ T) (hT : 0 < T) (T1 : T ≤ 1200) (hb : 0 ≤ b) (hbU : b ≤ U) (hU : 0 < U) (U1 : U ≤ 1200) (ht : 0 < t) (t1 : t ≤ 256) :
    path3 [(b, U), (a, T), (t, t)] = (ofN (a * b) (T * U), ofD (a * b) (T * U), 0) := by
  have hl : [(b, U), (a, T), (t, t)].all levB = true := by simp [lev_mk ha haT hT (by omega), lev_mk hb hbU hU (by omega), lev_mk (Int.le_of_lt ht) (Int.le_refl t) ht (by omega)]
  have e1 := one_times (w := b) (T := U) (k := 1200) hb hU (by omega) U1 (by decide)
  have e2 := times_of (u := b) (V := U) (w := a) (T := T) (m := 1200) (k := 1200) hb hU ha hT (by omega) U1 (by omega) T1 (by decide) (by decide) (by decide)
  rw [Int.mul_comm b a, Int.mul_comm U T] at e2
  have b0 := mul_le' ha (show a ≤ 1200 by omega) hb (show b ≤ 1200 by omega)
  have b1 := mul_le' (Int.le_of_lt hT) T1 (Int.le_of_lt hU) U1
  have e3 := times_one (u := a * b) (V := T * U) (m := 1440000) (Int.mul_nonneg ha hb) (Int.mul_pos hT hU) (by omega) (by omega) (by decide)
  have o := of_one ht
  unfold path3
  rw [hl, if_pos rfl, List.map_cons, List.map_cons, List.map_cons, List.map_nil, foldS_cons]
  unfold of2
  dsimp only
  rw [e1]
  dsimp only
  rw [if_pos rfl, foldS_cons]
  dsimp only
  rw [e2]
  dsimp only
  rw [if_pos rfl, foldS_cons]
  dsimp only
  rw [o.1, o.2.1, e3]
  dsimp only
  rw [if_pos rfl]
  rfl
/-- All products of two lists. -/
def prs2 (us bs : List Int) : List Int := us.flatMap fun a => bs.map fun b => a * b
theorem sumI_scale (a : Int) : ∀ bs : List Int, sumI (bs.map fun b => a * b) = a * sumI bs
  | [] => by simp [sumI]
  | b :: bs => by simp only [List.map_cons, sumI]; rw [sumI_scale a bs, Int.mul_add]
theorem sumI_prs (bs : List Int) : ∀ us : List Int, sumI (prs2 us bs) = sumI us * sumI bs
  | [] => by simp [prs2, sumI]
  | a :: us => by
    have ih := sumI_prs bs us
    unfold prs2 at *
    rw [List.flatMap_cons, sumI_app, ih, sumI_scale]
    simp only [sumI]
    rw [Int.add_mul]
theorem prs_snoc (us bs : List Int) (i : Nat) (h : i < us.length) : prs2 (us.take (i + 1)) bs = prs2 (us.take i) bs ++ bs.map fun b => us.getD i 0 * b := by
  rw [take_snocI us i h]
  unfold prs2
  rw [List.flatMap_append]
  simp
/-- The list of products, us far us it is made. -/
def mid (us bs : List Int) (TU : Int) (i k : Nat) : List P2 := (prs2 (us.take i) bs ++ (bs.take k).map fun b => us.getD i 0 * b).map fun x => of2 (x, TU)
theorem mid_zero (us bs : List Int) (TU : Int) (i : Nat) : mid us bs TU i 0 = (prs2 (us.take i) bs).map fun x => of2 (x, TU) := by
  unfold mid
  simp
theorem mid_full (us bs : List Int) (TU : Int) (i : Nat) (h : i < us.length) : mid us bs TU i bs.length = (prs2 (us.take (i + 1)) bs).map fun x => of2 (x, TU) := by
  unfold mid
  rw [List.take_length, prs_snoc us bs i h]
theorem mid_next (us bs : List Int) (TU : Int) (i k : Nat) (h : k < bs.length) : flat (mid us bs TU i (k + 1)) = flat (mid us bs TU i k) ++ flat [(ofN (us.getD i 0 * bs.getD k 0) TU, ofD (us.getD i 0 * bs.getD k 0) TU)] := by
  unfold mid
  rw [take_snocI bs k h]
  simp only [List.map_append, flat_app, List.append_assoc]
  rfl
theorem IsInts.take' {w : World} {k : IntKind} {A : Option Addr} {n m : Nat} {zs : List Int} (h : IsInts w k A n zs) (hm : m ≤ n) : IsInts w k A m (zs.take m) := by
  intro i hi
  obtain ⟨b, off, h1, h2, h3⟩ := h i (by omega)
  exact ⟨b, off, h1, h2, by rw [getD_take zs m i hi]; exact h3⟩

section
variable {P : Program} {Q : Exit → Act → World → Prop} {md : Region.Mode} {S : World → Prop}
theorem at_drop {l more : List Oper} {i : Nat} {oi : Oper} (hi : l.drop i = oi :: more) : l.toArray[i]? = some oi := by
  have h0 : (l.drop i)[0]? = some oi := by rw [hi]; rfl
  rw [List.getElem?_drop] at h0
  simpa using h0
/-- Take number i first, S being kept all along. -/
theorem heldTake (i : Nat) {l more : List Oper} {oi : Oper} {v : Value} {fuel : Nat} {got : Array Bool} {a : Act} {w : World} (hi : l.drop i = oi :: more)
    (hs : Region.noSelect l.toArray = true) (hf : Region.free md l.toArray got i = true) (hr : (Region.ready md l.toArray got).contains i = true)
    (hQ : ∀ c a w, Q (.panic c) (a.put oi.dst v) w → Q (.panic c) a w) (hy : YieldsIf P l.toArray S oi v a) (hS : S w)
    (h : wpAnyH P md l.toArray Q S fuel (got.setIfInBounds i true) (a.put oi.dst v) w) : wpAnyH P md l.toArray Q S (fuel + 1) got a w :=
  wpAnyH_take (at_drop hi) hs hf hr hQ hy hS h
/-- Number i is the only one that may come up, and it is wanted. -/
theorem heldOne (i : Nat) {l more : List Oper} {oi : Oper} {fuel : Nat} {got : Array Bool} {a : Act} {w : World} (hi : l.drop i = oi :: more)
    (hr : Region.ready md l.toArray got = [i]) (hg : Region.wanted oi (yielded l.toArray a.tmps) = true)
    (h : oi.wp P a w (fun a' w' => S w' ∧ wpAnyH P md l.toArray Q S fuel (got.setIfInBounds i true) a' w') Q) : wpAnyH P md l.toArray Q S (fuel + 1) got a w := by
  refine wpAnyH_all hr (by simp) (fun j hj => ?_)
  have hj : j = i := by simpa using hj
  subst hj
  unfold wpOp
  simp only [at_drop hi]
  rw [if_pos hg]
  exact .inl h
end

/-- The region n of a code. -/
def findR (n : Nat) : Code → Option Code
  | .region i ops d => if i = n then some (.region i ops d) else none
  | .seq a b => match findR n a with
    | some c => some c
    | none => findR n b
  | .cond _ a b => match findR n a with
    | some c => some c
    | none => findR n b
  | .block _ c => findR n c
  | .loop c => findR n c
  | .scope c => findR n c
  | _ => none
noncomputable def code9_3 : Code := (Try.f9.body.bind (findR 3)).getD .skip
set_option maxRecDepth 100000 in
set_option maxHeartbeats 4000000 in
theorem paths_r3 {v2 v3 v4 v5 v6 v7 v8 v9 v10 v11 v12 v13 v14 v15 v16 v17 v18 v19 v20 v21 v22 v23 v24 v25 v26 v27 v28 v29 v30 v31 v32 v33 v34 v35 v36 v37 v38 v39 v40 v41 v42 v43 v44 v45 v46 v47 v48 v49 v50 v51 v52 v53 v54 v55 v56 v57 v58 v59 v60 v61 v62 v63 v64 v65 v66 v67 v68 v69 v70 v71 v72 v73 v74 v75 v76 v77 v78 v79 v80 v81 v82 v83 v84 v85 v86 v87 v88 v89 v90 v91 v92 v93 v94 v95 v96 v97 v98 v99 v100 v101 v102 v103 v104 v105 v106 v107 v108 v109 v110 v111 v112 v113 v114 v115 v116 v117 v118 v119 v120 v121 v122 v123 v124 v125 v126 v127 v128 v129 v130 v131 v132 v133 v134 v135 : Value} {A B : Option Addr} {la ca lb cb ma mb na nb : Nat} {us bs : List Int} {W w0 : World} (hk0 : Kp W.heap.size W w0) (h1 : ma ≤ ca) (h2 : mb ≤ cb) (hca : (ca : Int) ≤ 9223372036854775807) (hcb : (cb : Int) ≤ 9223372036854775807) (g1 : (ma = la ∧ (la : Int) ≤ 6) ∨ (ma = 6 ∧ (6 : Int) < la)) (g2 : (mb = lb ∧ (lb : Int) ≤ 6) ∨ (mb = 6 ∧ (6 : Int) < lb)) (HA : ∀ w, Kp W.heap.size W w → Calls Try.prog 22 #[.slice A ma ca] w (OwnPost w 3 1 na (us.map (Value.int .i64)))) (HB : ∀ w, Kp W.heap.size W w → Calls Try.prog 22 #[.slice B mb cb] w (OwnPost w 3 1 nb (bs.map (Value.int .i64)))) {Q : Exit → Act → World → Prop}
    (hexit : ∀ (u7 u8 u28 u29 u30 u31 u32 u33 u34 u35 u36 u37 u38 u39 : Value) (w' : World), (∃ A1 c1 A2 c2, u7 = .slice A1 na c1 ∧ u8 = .slice A2 nb c2 ∧ (na ≤ c1 ∧ c1 ≤ maxLen) ∧ (nb ≤ c2 ∧ c2 ≤ maxLen) ∧ IsInts w' .i64 A1 na us ∧ IsInts w' .i64 A2 nb bs ∧ Kp W.heap.size W w') → Q .normal ⟨#[.slice A la ca, .slice B lb cb, v2, v3, v4, v5, v6, u7, u8, v9, v10, v11, v12, v13, v14, v15, v16, v17, v18, v19, v20, v21, v22, v23, v24, v25, v26, v27, u28, u29, u30, u31, u32, u33, u34, u35, u36, u37, u38, u39, v40, v41, v42, v43, v44, v45, v46, v47, v48, v49, v50, v51, v52, v53, v54, v55, v56, v57, v58, v59, v60, v61, v62, v63, v64, v65, v66, v67, v68, v69, v70, v71, v72, v73, v74, v75, v76, v77, v78, v79, v80, v81, v82, v83, v84, v85, v86, v87, v88, v89, v90, v91, v92, v93, v94, v95, v96, v97, v98, v99, v100, v101, v102, v103, v104, v105, v106, v107, v108, v109, v110, v111, v112, v113, v114, v115, v116, v117, v118, v119, v120, v121, v122, v123, v124, v125, v126, v127, v128, v129, v130, v131, v132, v133, v134, v135], []⟩ w') :
    Code.wp Try.prog code9_3 Q ⟨#[.slice A la ca, .slice B lb cb, v2, v3, v4, v5, v6, v7, v8, v9, v10, v11, v12, v13, v14, v15, v16, v17, v18, v19, v20, v21, v22, v23, v24, v25, v26, v27, v28, v29, v30, v31, v32, v33, v34, v35, v36, v37, v38, v39, v40, v41, v42, v43, v44, v45, v46, v47, v48, v49, v50, v51, v52, v53, v54, v55, v56, v57, v58, v59, v60, v61, v62, v63, v64, v65, v66, v67, v68, v69, v70, v71, v72, v73, v74, v75, v76, v77, v78, v79, v80, v81, v82, v83, v84, v85, v86, v87, v88, v89, v90, v91, v92, v93, v94, v95, v96, v97, v98, v99, v100, v101, v102, v103, v104, v105, v106, v107, v108, v109, v110, v111, v112, v113, v114, v115, v116, v117, v118, v119, v120, v121, v122, v123, v124, v125, v126, v127, v128, v129, v130, v131, v132, v133, v134, v135], []⟩ w0 := by
  conv => arg 2; whnf
  refine wp_region_noPanic ?_
  have H1 := fun w k => Lib.hid (HA w k)
  have H2 := fun w k => Lib.hid (HB w k)
  have HK := Lib.hid hk0
  have hz : (0 : Int) ≤ la := by omega
  have hz2 : (0 : Int) ≤ lb := by omega
  have hc1 : (ma : Int) ≤ ca := by omega
  have hc2 : (mb : Int) ≤ cb := by omega
  clear HA HB hk0
  have fin : ∀ (wx : World) (A1 : Option Addr) (c1 : Nat) (A2 : Option Addr) (c2 : Nat), True := fun _ _ _ _ _ => trivial
  clear fin
  rcases g1 with ⟨rfl, g1⟩ | ⟨rfl, g1⟩
  · have hx : ¬ (6 : Int) < ma := by omega
    rcases g2 with ⟨rfl, g2⟩ | ⟨rfl, g2⟩
    · have hy : ¬ (6 : Int) < mb := by omega
      refine wp_region_held_drew (S := fun _ => True) (by kernel_rfl) trivial (fun hHeld => ?_)
      refine heldTake 0 (v := ?_) rfl (by kernel_rfl) (by kernel_rfl) (by kernel_rfl) (fun _ _ _ h => h) (Or.inl ⟨by rfl, ?_⟩) (by assumption) ?_
      rotate_left
      · intro w hSw
        go_simp
        try with_reducible rfl
      simp only [Act.put, List.setIfInBounds_toArray, List.set_cons_zero, List.set_cons_succ]
      refine heldTake 1 (v := ?_) rfl (by kernel_rfl) (by kernel_rfl) (by kernel_rfl) (fun _ _ _ h => h) (Or.inl ⟨by rfl, ?_⟩) (by assumption) ?_
      rotate_left
      · intro w hSw
        go_simp
        try with_reducible rfl
      simp only [Act.put, List.setIfInBounds_toArray, List.set_cons_zero, List.set_cons_succ]
      refine heldTake 2 (v := ?_) rfl (by kernel_rfl) (by kernel_rfl) (by kernel_rfl) (fun _ _ _ h => h) (Or.inl ⟨by rfl, ?_⟩) (by assumption) ?_
      rotate_left
      · intro w hSw
        go_simp
        try with_reducible rfl
      simp only [Act.put, List.setIfInBounds_toArray, List.set_cons_zero, List.set_cons_succ]
      refine heldTake 3 (v := ?_) rfl (by kernel_rfl) (by kernel_rfl) (by kernel_rfl) (fun _ _ _ h => h) (Or.inl ⟨by rfl, ?_⟩) (by assumption) ?_
      rotate_left
      · intro w hSw
        go_simp
        try with_reducible rfl
      simp only [Act.put, List.setIfInBounds_toArray, List.set_cons_zero, List.set_cons_succ]
      refine heldTake 4 (v := .slice A ma ca) rfl (by kernel_rfl) (by kernel_rfl) (by kernel_rfl) (fun _ _ _ h => h) (Or.inl ⟨by rfl, ?_⟩) (by assumption) ?_
      · intro w hSw
        go_simp
        try with_reducible rfl
      simp only [Act.put, List.setIfInBounds_toArray, List.set_cons_zero, List.set_cons_succ]
      refine heldTake 6 (v := ?_) rfl (by kernel_rfl) (by kernel_rfl) (by kernel_rfl) (fun _ _ _ h => h) (Or.inl ⟨by rfl, ?_⟩) (by assumption) ?_
      rotate_left
      · intro w hSw
        go_simp
        try with_reducible rfl
      simp only [Act.put, List.setIfInBounds_toArray, List.set_cons_zero, List.set_cons_succ]
      refine heldTake 7 (v := ?_) rfl (by kernel_rfl) (by kernel_rfl) (by kernel_rfl) (fun _ _ _ h => h) (Or.inl ⟨by rfl, ?_⟩) (by assumption) ?_
      rotate_left
      · intro w hSw
        go_simp
        try with_reducible rfl
      simp only [Act.put, List.setIfInBounds_toArray, List.set_cons_zero, List.set_cons_succ]
      refine heldTake 8 (v := ?_) rfl (by kernel_rfl) (by kernel_rfl) (by kernel_rfl) (fun _ _ _ h => h) (Or.inl ⟨by rfl, ?_⟩) (by assumption) ?_
      rotate_left
      · intro w hSw
        go_simp
        try with_reducible rfl
      simp only [Act.put, List.setIfInBounds_toArray, List.set_cons_zero, List.set_cons_succ]
      refine heldTake 9 (v := ?_) rfl (by kernel_rfl) (by kernel_rfl) (by kernel_rfl) (fun _ _ _ h => h) (Or.inl ⟨by rfl, ?_⟩) (by assumption) ?_
      rotate_left
      · intro w hSw
        go_simp
        try with_reducible rfl
      simp only [Act.put, List.setIfInBounds_toArray, List.set_cons_zero, List.set_cons_succ]
      refine heldTake 10 (v := .slice B mb cb) rfl (by kernel_rfl) (by kernel_rfl) (by kernel_rfl) (fun _ _ _ h => h) (Or.inl ⟨by rfl, ?_⟩) (by assumption) ?_
      · intro w hSw
        go_simp
        try with_reducible rfl
      simp only [Act.put, List.setIfInBounds_toArray, List.set_cons_zero, List.set_cons_succ]
      refine heldOne 5 rfl (by kernel_rfl) (by rfl) ?_
      go_simp
      (with_reducible refine (H1 _ HK.out.drew).out.mono ?_)
      rintro e wa ⟨va, rfl, ho1, hk1⟩
      replace HK := Lib.hid (HK.out.drew.trans (hk1.mono HK.out.drew.size))
      dsimp only
      try refine and_keep trivial (fun hHeld => ?_)
      refine heldOne 11 rfl (by kernel_rfl) (by rfl) ?_
      go_simp
      (with_reducible refine (H2 _ HK.out).out.mono ?_)
      rintro e wb ⟨vb, rfl, ho2, hk2⟩
      replace HK := Lib.hid (HK.out.trans (hk2.mono HK.out.size))
      dsimp only
      try refine and_keep trivial (fun hHeld => ?_)
      refine heldOne 12 rfl (by kernel_rfl) (by rfl) ?_
      go_simp
      refine heldOne 13 rfl (by kernel_rfl) (by rfl) ?_
      go_simp
      refine wpAnyH_done (by kernel_rfl) ?_ _
      obtain ⟨A1, c1, rfl, k1, k2, _, hr1, _⟩ := own_form ho1
      obtain ⟨A2, c2, rfl, k3, k4, _, hr2, _⟩ := own_form ho2
      refine NoPanic.normal (hexit _ _ _ _ _ _ _ _ _ _ _ _ _ _ _ ?_)
      exact ⟨A1, c1, A2, c2, rfl, rfl, ⟨k1, k2⟩, ⟨k3, k4⟩, hr1.isInts.2.below hk2, hr2.isInts.2, HK.out⟩
    · have hy : ¬ (cb : Int) < 6 := by omega
      refine wp_region_held_drew (S := fun _ => True) (by kernel_rfl) trivial (fun hHeld => ?_)
      refine heldTake 0 (v := ?_) rfl (by kernel_rfl) (by kernel_rfl) (by kernel_rfl) (fun _ _ _ h => h) (Or.inl ⟨by rfl, ?_⟩) (by assumption) ?_
      rotate_left
      · intro w hSw
        go_simp
        try with_reducible rfl
      simp only [Act.put, List.setIfInBounds_toArray, List.set_cons_zero, List.set_cons_succ]
      refine heldTake 1 (v := ?_) rfl (by kernel_rfl) (by kernel_rfl) (by kernel_rfl) (fun _ _ _ h => h) (Or.inl ⟨by rfl, ?_⟩) (by assumption) ?_
      rotate_left
      · intro w hSw
        go_simp
        try with_reducible rfl
      simp only [Act.put, List.setIfInBounds_toArray, List.set_cons_zero, List.set_cons_succ]
      refine heldTake 2 (v := ?_) rfl (by kernel_rfl) (by kernel_rfl) (by kernel_rfl) (fun _ _ _ h => h) (Or.inl ⟨by rfl, ?_⟩) (by assumption) ?_
      rotate_left
      · intro w hSw
        go_simp
        try with_reducible rfl
      simp only [Act.put, List.setIfInBounds_toArray, List.set_cons_zero, List.set_cons_succ]
      refine heldTake 3 (v := ?_) rfl (by kernel_rfl) (by kernel_rfl) (by kernel_rfl) (fun _ _ _ h => h) (Or.inl ⟨by rfl, ?_⟩) (by assumption) ?_
      rotate_left
      · intro w hSw
        go_simp
        try with_reducible rfl
      simp only [Act.put, List.setIfInBounds_toArray, List.set_cons_zero, List.set_cons_succ]
      refine heldTake 4 (v := .slice A ma ca) rfl (by kernel_rfl) (by kernel_rfl) (by kernel_rfl) (fun _ _ _ h => h) (Or.inl ⟨by rfl, ?_⟩) (by assumption) ?_
      · intro w hSw
        go_simp
        try with_reducible rfl
      simp only [Act.put, List.setIfInBounds_toArray, List.set_cons_zero, List.set_cons_succ]
      refine heldTake 6 (v := ?_) rfl (by kernel_rfl) (by kernel_rfl) (by kernel_rfl) (fun _ _ _ h => h) (Or.inl ⟨by rfl, ?_⟩) (by assumption) ?_
      rotate_left
      · intro w hSw
        go_simp
        try with_reducible rfl
      simp only [Act.put, List.setIfInBounds_toArray, List.set_cons_zero, List.set_cons_succ]
      refine heldTake 7 (v := ?_) rfl (by kernel_rfl) (by kernel_rfl) (by kernel_rfl) (fun _ _ _ h => h) (Or.inl ⟨by rfl, ?_⟩) (by assumption) ?_
      rotate_left
      · intro w hSw
        go_simp
        try with_reducible rfl
      simp only [Act.put, List.setIfInBounds_toArray, List.set_cons_zero, List.set_cons_succ]
      refine heldTake 8 (v := ?_) rfl (by kernel_rfl) (by kernel_rfl) (by kernel_rfl) (fun _ _ _ h => h) (Or.inl ⟨by rfl, ?_⟩) (by assumption) ?_
      rotate_left
      · intro w hSw
        go_simp
        try with_reducible rfl
      simp only [Act.put, List.setIfInBounds_toArray, List.set_cons_zero, List.set_cons_succ]
      refine heldTake 9 (v := ?_) rfl (by kernel_rfl) (by kernel_rfl) (by kernel_rfl) (fun _ _ _ h => h) (Or.inl ⟨by rfl, ?_⟩) (by assumption) ?_
      rotate_left
      · intro w hSw
        go_simp
        try with_reducible rfl
      simp only [Act.put, List.setIfInBounds_toArray, List.set_cons_zero, List.set_cons_succ]
      refine heldTake 10 (v := .slice B 6 cb) rfl (by kernel_rfl) (by kernel_rfl) (by kernel_rfl) (fun _ _ _ h => h) (Or.inl ⟨by rfl, ?_⟩) (by assumption) ?_
      · intro w hSw
        go_simp
        try with_reducible rfl
      simp only [Act.put, List.setIfInBounds_toArray, List.set_cons_zero, List.set_cons_succ]
      refine heldOne 5 rfl (by kernel_rfl) (by rfl) ?_
      go_simp
      (with_reducible refine (H1 _ HK.out.drew).out.mono ?_)
      rintro e wa ⟨va, rfl, ho1, hk1⟩
      replace HK := Lib.hid (HK.out.drew.trans (hk1.mono HK.out.drew.size))
      dsimp only
      try refine and_keep trivial (fun hHeld => ?_)
      refine heldOne 11 rfl (by kernel_rfl) (by rfl) ?_
      go_simp
      (with_reducible refine (H2 _ HK.out).out.mono ?_)
      rintro e wb ⟨vb, rfl, ho2, hk2⟩
      replace HK := Lib.hid (HK.out.trans (hk2.mono HK.out.size))
      dsimp only
      try refine and_keep trivial (fun hHeld => ?_)
      refine heldOne 12 rfl (by kernel_rfl) (by rfl) ?_
      go_simp
      refine heldOne 13 rfl (by kernel_rfl) (by rfl) ?_
      go_simp
      refine wpAnyH_done (by kernel_rfl) ?_ _
      obtain ⟨A1, c1, rfl, k1, k2, _, hr1, _⟩ := own_form ho1
      obtain ⟨A2, c2, rfl, k3, k4, _, hr2, _⟩ := own_form ho2
      refine NoPanic.normal (hexit _ _ _ _ _ _ _ _ _ _ _ _ _ _ _ ?_)
      exact ⟨A1, c1, A2, c2, rfl, rfl, ⟨k1, k2⟩, ⟨k3, k4⟩, hr1.isInts.2.below hk2, hr2.isInts.2, HK.out⟩
  · have hx : ¬ (ca : Int) < 6 := by omega
    rcases g2 with ⟨rfl, g2⟩ | ⟨rfl, g2⟩
    · have hy : ¬ (6 : Int) < mb := by omega
      refine wp_region_held_drew (S := fun _ => True) (by kernel_rfl) trivial (fun hHeld => ?_)
      refine heldTake 0 (v := ?_) rfl (by kernel_rfl) (by kernel_rfl) (by kernel_rfl) (fun _ _ _ h => h) (Or.inl ⟨by rfl, ?_⟩) (by assumption) ?_
      rotate_left
      · intro w hSw
        go_simp
        try with_reducible rfl
      simp only [Act.put, List.setIfInBounds_toArray, List.set_cons_zero, List.set_cons_succ]
      refine heldTake 1 (v := ?_) rfl (by kernel_rfl) (by kernel_rfl) (by kernel_rfl) (fun _ _ _ h => h) (Or.inl ⟨by rfl, ?_⟩) (by assumption) ?_
      rotate_left
      · intro w hSw
        go_simp
        try with_reducible rfl
      simp only [Act.put, List.setIfInBounds_toArray, List.set_cons_zero, List.set_cons_succ]
      refine heldTake 2 (v := ?_) rfl (by kernel_rfl) (by kernel_rfl) (by kernel_rfl) (fun _ _ _ h => h) (Or.inl ⟨by rfl, ?_⟩) (by assumption) ?_
      rotate_left
      · intro w hSw
        go_simp
        try with_reducible rfl
      simp only [Act.put, List.setIfInBounds_toArray, List.set_cons_zero, List.set_cons_succ]
      refine heldTake 3 (v := ?_) rfl (by kernel_rfl) (by kernel_rfl) (by kernel_rfl) (fun _ _ _ h => h) (Or.inl ⟨by rfl, ?_⟩) (by assumption) ?_
      rotate_left
      · intro w hSw
        go_simp
        try with_reducible rfl
      simp only [Act.put, List.setIfInBounds_toArray, List.set_cons_zero, List.set_cons_succ]
      refine heldTake 4 (v := .slice A 6 ca) rfl (by kernel_rfl) (by kernel_rfl) (by kernel_rfl) (fun _ _ _ h => h) (Or.inl ⟨by rfl, ?_⟩) (by assumption) ?_
      · intro w hSw
        go_simp
        try with_reducible rfl
      simp only [Act.put, List.setIfInBounds_toArray, List.set_cons_zero, List.set_cons_succ]
      refine heldTake 6 (v := ?_) rfl (by kernel_rfl) (by kernel_rfl) (by kernel_rfl) (fun _ _ _ h => h) (Or.inl ⟨by rfl, ?_⟩) (by assumption) ?_
      rotate_left
      · intro w hSw
        go_simp
        try with_reducible rfl
      simp only [Act.put, List.setIfInBounds_toArray, List.set_cons_zero, List.set_cons_succ]
      refine heldTake 7 (v := ?_) rfl (by kernel_rfl) (by kernel_rfl) (by kernel_rfl) (fun _ _ _ h => h) (Or.inl ⟨by rfl, ?_⟩) (by assumption) ?_
      rotate_left
      · intro w hSw
        go_simp
        try with_reducible rfl
      simp only [Act.put, List.setIfInBounds_toArray, List.set_cons_zero, List.set_cons_succ]
      refine heldTake 8 (v := ?_) rfl (by kernel_rfl) (by kernel_rfl) (by kernel_rfl) (fun _ _ _ h => h) (Or.inl ⟨by rfl, ?_⟩) (by assumption) ?_
      rotate_left
      · intro w hSw
        go_simp
        try with_reducible rfl
      simp only [Act.put, List.setIfInBounds_toArray, List.set_cons_zero, List.set_cons_succ]
      refine heldTake 9 (v := ?_) rfl (by kernel_rfl) (by kernel_rfl) (by kernel_rfl) (fun _ _ _ h => h) (Or.inl ⟨by rfl, ?_⟩) (by assumption) ?_
      rotate_left
      · intro w hSw
        go_simp
        try with_reducible rfl
      simp only [Act.put, List.setIfInBounds_toArray, List.set_cons_zero, List.set_cons_succ]
      refine heldTake 10 (v := .slice B mb cb) rfl (by kernel_rfl) (by kernel_rfl) (by kernel_rfl) (fun _ _ _ h => h) (Or.inl ⟨by rfl, ?_⟩) (by assumption) ?_
      · intro w hSw
        go_simp
        try with_reducible rfl
      simp only [Act.put, List.setIfInBounds_toArray, List.set_cons_zero, List.set_cons_succ]
      refine heldOne 5 rfl (by kernel_rfl) (by rfl) ?_
      go_simp
      (with_reducible refine (H1 _ HK.out.drew).out.mono ?_)
      rintro e wa ⟨va, rfl, ho1, hk1⟩
      replace HK := Lib.hid (HK.out.drew.trans (hk1.mono HK.out.drew.size))
      dsimp only
      try refine and_keep trivial (fun hHeld => ?_)
      refine heldOne 11 rfl (by kernel_rfl) (by rfl) ?_
      go_simp
      (with_reducible refine (H2 _ HK.out).out.mono ?_)
      rintro e wb ⟨vb, rfl, ho2, hk2⟩
      replace HK := Lib.hid (HK.out.trans (hk2.mono HK.out.size))
      dsimp only
      try refine and_keep trivial (fun hHeld => ?_)
      refine heldOne 12 rfl (by kernel_rfl) (by rfl) ?_
      go_simp
      refine heldOne 13 rfl (by kernel_rfl) (by rfl) ?_
      go_simp
      refine wpAnyH_done (by kernel_rfl) ?_ _
      obtain ⟨A1, c1, rfl, k1, k2, _, hr1, _⟩ := own_form ho1
      obtain ⟨A2, c2, rfl, k3, k4, _, hr2, _⟩ := own_form ho2
      refine NoPanic.normal (hexit _ _ _ _ _ _ _ _ _ _ _ _ _ _ _ ?_)
      exact ⟨A1, c1, A2, c2, rfl, rfl, ⟨k1, k2⟩, ⟨k3, k4⟩, hr1.isInts.2.below hk2, hr2.isInts.2, HK.out⟩
    · have hy : ¬ (cb : Int) < 6 := by omega
      refine wp_region_held_drew (S := fun _ => True) (by kernel_rfl) trivial (fun hHeld => ?_)
      refine heldTake 0 (v := ?_) rfl (by kernel_rfl) (by kernel_rfl) (by kernel_rfl) (fun _ _ _ h => h) (Or.inl ⟨by rfl, ?_⟩) (by assumption) ?_
      rotate_left
      · intro w hSw
        go_simp
        try with_reducible rfl
      simp only [Act.put, List.setIfInBounds_toArray, List.set_cons_zero, List.set_cons_succ]
      refine heldTake 1 (v := ?_) rfl (by kernel_rfl) (by kernel_rfl) (by kernel_rfl) (fun _ _ _ h => h) (Or.inl ⟨by rfl, ?_⟩) (by assumption) ?_
      rotate_left
      · intro w hSw
        go_simp
        try with_reducible rfl
      simp only [Act.put, List.setIfInBounds_toArray, List.set_cons_zero, List.set_cons_succ]
      refine heldTake 2 (v := ?_) rfl (by kernel_rfl) (by kernel_rfl) (by kernel_rfl) (fun _ _ _ h => h) (Or.inl ⟨by rfl, ?_⟩) (by assumption) ?_
      rotate_left
      · intro w hSw
        go_simp
        try with_reducible rfl
      simp only [Act.put, List.setIfInBounds_toArray, List.set_cons_zero, List.set_cons_succ]
      refine heldTake 3 (v := ?_) rfl (by kernel_rfl) (by kernel_rfl) (by kernel_rfl) (fun _ _ _ h => h) (Or.inl ⟨by rfl, ?_⟩) (by assumption) ?_
      rotate_left
      · intro w hSw
        go_simp
        try with_reducible rfl
      simp only [Act.put, List.setIfInBounds_toArray, List.set_cons_zero, List.set_cons_succ]
      refine heldTake 4 (v := .slice A 6 ca) rfl (by kernel_rfl) (by kernel_rfl) (by kernel_rfl) (fun _ _ _ h => h) (Or.inl ⟨by rfl, ?_⟩) (by assumption) ?_
      · intro w hSw
        go_simp
        try with_reducible rfl
      simp only [Act.put, List.setIfInBounds_toArray, List.set_cons_zero, List.set_cons_succ]
      refine heldTake 6 (v := ?_) rfl (by kernel_rfl) (by kernel_rfl) (by kernel_rfl) (fun _ _ _ h => h) (Or.inl ⟨by rfl, ?_⟩) (by assumption) ?_
      rotate_left
      · intro w hSw
        go_simp
        try with_reducible rfl
      simp only [Act.put, List.setIfInBounds_toArray, List.set_cons_zero, List.set_cons_succ]
      refine heldTake 7 (v := ?_) rfl (by kernel_rfl) (by kernel_rfl) (by kernel_rfl) (fun _ _ _ h => h) (Or.inl ⟨by rfl, ?_⟩) (by assumption) ?_
      rotate_left
      · intro w hSw
        go_simp
        try with_reducible rfl
      simp only [Act.put, List.setIfInBounds_toArray, List.set_cons_zero, List.set_cons_succ]
      refine heldTake 8 (v := ?_) rfl (by kernel_rfl) (by kernel_rfl) (by kernel_rfl) (fun _ _ _ h => h) (Or.inl ⟨by rfl, ?_⟩) (by assumption) ?_
      rotate_left
      · intro w hSw
        go_simp
        try with_reducible rfl
      simp only [Act.put, List.setIfInBounds_toArray, List.set_cons_zero, List.set_cons_succ]
      refine heldTake 9 (v := ?_) rfl (by kernel_rfl) (by kernel_rfl) (by kernel_rfl) (fun _ _ _ h => h) (Or.inl ⟨by rfl, ?_⟩) (by assumption) ?_
      rotate_left
      · intro w hSw
        go_simp
        try with_reducible rfl
      simp only [Act.put, List.setIfInBounds_toArray, List.set_cons_zero, List.set_cons_succ]
      refine heldTake 10 (v := .slice B 6 cb) rfl (by kernel_rfl) (by kernel_rfl) (by kernel_rfl) (fun _ _ _ h => h) (Or.inl ⟨by rfl, ?_⟩) (by assumption) ?_
      · intro w hSw
        go_simp
        try with_reducible rfl
      simp only [Act.put, List.setIfInBounds_toArray, List.set_cons_zero, List.set_cons_succ]
      refine heldOne 5 rfl (by kernel_rfl) (by rfl) ?_
      go_simp
      (with_reducible refine (H1 _ HK.out.drew).out.mono ?_)
      rintro e wa ⟨va, rfl, ho1, hk1⟩
      replace HK := Lib.hid (HK.out.drew.trans (hk1.mono HK.out.drew.size))
      dsimp only
      try refine and_keep trivial (fun hHeld => ?_)
      refine heldOne 11 rfl (by kernel_rfl) (by rfl) ?_
      go_simp
      (with_reducible refine (H2 _ HK.out).out.mono ?_)
      rintro e wb ⟨vb, rfl, ho2, hk2⟩
      replace HK := Lib.hid (HK.out.trans (hk2.mono HK.out.size))
      dsimp only
      try refine and_keep trivial (fun hHeld => ?_)
      refine heldOne 12 rfl (by kernel_rfl) (by rfl) ?_
      go_simp
      refine heldOne 13 rfl (by kernel_rfl) (by rfl) ?_
      go_simp
      refine wpAnyH_done (by kernel_rfl) ?_ _
      obtain ⟨A1, c1, rfl, k1, k2, _, hr1, _⟩ := own_form ho1
      obtain ⟨A2, c2, rfl, k3, k4, _, hr2, _⟩ := own_form ho2
      refine NoPanic.normal (hexit _ _ _ _ _ _ _ _ _ _ _ _ _ _ _ ?_)
      exact ⟨A1, c1, A2, c2, rfl, rfl, ⟨k1, k2⟩, ⟨k3, k4⟩, hr1.isInts.2.below hk2, hr2.isInts.2, HK.out⟩

set_option maxRecDepth 100000 in
set_option maxHeartbeats 4000000 in
theorem paths_walk {W0 : World} (A B : Option Addr) (la ca lb cb ma mb na nb : Nat) (us bs : List Int) (h1 : ma ≤ ca) (h2 : mb ≤ cb) (hca : (ca : Int) ≤ 9223372036854775807) (hcb : (cb : Int) ≤ 9223372036854775807)
    (g1 : (ma = la ∧ (la : Int) ≤ 6) ∨ (ma = 6 ∧ (6 : Int) < la)) (g2 : (mb = lb ∧ (lb : Int) ≤ 6) ∨ (mb = 6 ∧ (6 : Int) < lb))
    (HA : ∀ w, Kp W0.heap.size W0 w → Calls Try.prog 22 #[.slice A ma ca] w (OwnPost w 3 1 na (us.map (Value.int .i64)))) (HB : ∀ w, Kp W0.heap.size W0 w → Calls Try.prog 22 #[.slice B mb cb] w (OwnPost w 3 1 nb (bs.map (Value.int .i64))))
    (hna : us.length = na) (hnb : bs.length = nb) (hna6 : na ≤ 6) (hnb6 : nb ≤ 6) (hba : ∀ w ∈ us, 1 ≤ w ∧ w ≤ 200) (hbb : ∀ w ∈ bs, 1 ≤ w ∧ w ≤ 200) (p0' : 0 < na) (q0' : 0 < nb) (u : Int) (u0 : 0 ≤ u) (u1 : u ≤ 255) :
    Calls Try.prog 9 #[.slice A la ca, .slice B lb cb, .int .u8 u] W0 fun e w' => e = .returned (.bool true) ∧ Kp W0.heap.size W0 w' := by
  have HAw := fun w => Lib.hid (awake_any w)
  obtain ⟨T, hT⟩ : ∃ T, T = sumI us := ⟨_, rfl⟩
  obtain ⟨U, hU⟩ : ∃ U, U = sumI bs := ⟨_, rfl⟩
  have sa := sum_le us hba
  have sb := sum_le bs hbb
  rw [← hT] at sa
  rw [← hU] at sb
  have T0 : 0 < T := by omega
  have T1 : T ≤ 1200 := by omega
  have U0 : 0 < U := by omega
  have U1 : U ≤ 1200 := by omega
  have z0 := Int.mul_pos T0 U0
  have z1 := mul_le' (Int.le_of_lt T0) T1 (Int.le_of_lt U0) U1
  have HPa := Lib.hid (show ∀ i, i < na → 1 ≤ us.getD i 0 ∧ us.getD i 0 ≤ 200 ∧ us.getD i 0 ≤ T from fun i h => by
    have h3 := hba _ (mem_getD (l := us) (i := i) (by omega))
    have h4 := sumI_le us (wOk_all hba) i (by omega)
    omega)
  have HPb := Lib.hid (show ∀ i, i < nb → 1 ≤ bs.getD i 0 ∧ bs.getD i 0 ≤ 200 ∧ bs.getD i 0 ≤ U from fun i h => by
    have h3 := hbb _ (mem_getD (l := bs) (i := i) (by omega))
    have h4 := sumI_le bs (wOk_all hbb) i (by omega)
    omega)
  have HSa := Lib.hid (show ∀ i, i < na → sumI (us.take (i + 1)) = sumI (us.take i) + us.getD i 0 from fun i h => sumI_take_succ us i (by omega))
  have HSb := Lib.hid (show ∀ i, i < nb → sumI (bs.take (i + 1)) = sumI (bs.take i) + bs.getD i 0 from fun i h => sumI_take_succ bs i (by omega))
  have bd : ∀ (l : List Int) (n : Nat), l.length ≤ 6 → (∀ w ∈ l, 1 ≤ w ∧ w ≤ 200) → 0 ≤ sumI (l.take n) ∧ sumI (l.take n) ≤ 1200 := fun l n hl hb => by
    have h3 := sum_le (l.take n) (fun w hw => hb w (mem_take hw))
    have h4 : (l.take n).length ≤ 6 := by rw [List.length_take]; omega
    omega
  have HBa := Lib.hid (fun n => bd us n (by omega) hba)
  have HBb := Lib.hid (fun n => bd bs n (by omega) hbb)
  have HTa := Lib.hid (show sumI (us.take na) = T by rw [← hna, List.take_length, hT])
  have HTb := Lib.hid (show sumI (bs.take nb) = U by rw [← hnb, List.take_length, hU])
  have HPth := Lib.hid (show ∀ i k, i < na → k < nb → path3 [(us.getD i 0, T), (bs.getD k 0, U)] = (ofN (us.getD i 0 * bs.getD k 0) (T * U), ofD (us.getD i 0 * bs.getD k 0) (T * U), 0) ∧ path3 [(bs.getD k 0, U), (us.getD i 0, T), (1 + u, 1 + u)] = (ofN (us.getD i 0 * bs.getD k 0) (T * U), ofD (us.getD i 0 * bs.getD k 0) (T * U), 0) from fun i k hi hk => by
    have a := HPa.out i hi
    have b := HPb.out k hk
    exact ⟨path_two (by omega) a.2.2 T0 T1 (by omega) b.2.2 U0 U1, path_three (by omega) a.2.2 T0 T1 (by omega) b.2.2 U0 U1 (by omega) (by omega)⟩)
  have HMid := Lib.hid (show ∀ i k, k < nb → flat (mid us bs (T * U) i (k + 1)) = flat (mid us bs (T * U) i k) ++ flat [(ofN (us.getD i 0 * bs.getD k 0) (T * U), ofD (us.getD i 0 * bs.getD k 0) (T * U))] from fun i k h => mid_next us bs (T * U) i k (by omega))
  have HMf := Lib.hid (show ∀ i, i < na → mid us bs (T * U) i nb = mid us bs (T * U) (i + 1) 0 from fun i h => by
    rw [mid_zero, ← hnb]
    exact mid_full us bs (T * U) i (by omega))
  have HM0 := Lib.hid (show mid us bs (T * U) 0 0 = [] by rw [mid_zero]; rfl)
  have HSum := Lib.hid (show ∀ n, (mid us bs (T * U) na 0).length = n → sum3 (mid us bs (T * U) na 0) = (1, 1, 0) from fun n _ => by
    rw [mid_zero, ← hna, List.take_length]
    have hs := sumI_prs bs us
    rw [← hT, ← hU] at hs
    have hb : ∀ w ∈ prs2 us bs, 0 ≤ w ∧ w ≤ 1440000 := fun w hw => by
      unfold prs2 at hw
      obtain ⟨a, ha, hw2⟩ := List.mem_flatMap.1 hw
      obtain ⟨b, hb2, rfl⟩ := List.mem_map.1 hw2
      have x1 := hba a ha
      have x2 := hbb b hb2
      have y0 := Int.mul_nonneg (show 0 ≤ a by omega) (show 0 ≤ b by omega)
      have y1 := mul_le' (show 0 ≤ a by omega) x1.2 (show 0 ≤ b by omega) x2.2
      omega
    rw [sum_parts z0 (by omega) (by decide) (prs2 us bs) hb (by omega), hs]
    have o := of_one z0
    rw [o.1, o.2.1])
  have HAx := Lib.hid HA
  have HBx := Lib.hid HB
  have HG1 := Lib.hid g1
  have HG2 := Lib.hid g2
  obtain ⟨i0, hi0, hz0, hz1, hz2⟩ := info_parts shr_info
  have HI := Lib.hid hi0
  have HZ0 := Lib.hid hz0
  have HZ1 := Lib.hid hz1
  have HZ2 := Lib.hid hz2
  have ja : (0 : Int) < na := by omega
  have jb : (0 : Int) < nb := by omega
  have ja6 : (na : Int) ≤ 6 := by omega
  have jb6 : (nb : Int) ≤ 6 := by omega
  have jea : ((na : Int) == 0) = false := beq_eq_false_iff_ne.2 (by omega)
  have jeb : ((nb : Int) == 0) = false := beq_eq_false_iff_ne.2 (by omega)
  generalize T * U = TU at *
  clear HA HB g1 g2 hna hnb hba hbb hT hU sa sb z0 z1 bd hi0 hz0 hz1 hz2
  go_enter Try.func9, Try.ntmps9
  go_wp2_with fail
  (with_reducible refine (HAw _).out.mono ?_)
  rintro e w1 ⟨rfl, hk⟩
  have HK1 := Lib.hid hk
  clear hk HAw
  go_upto_region 3 with fail
  refine paths_r3 (W := w1) (Kp.refl _ _) h1 h2 hca hcb HG1.out HG2.out (fun w k => HAx.out w (HK1.out.trans (k.mono HK1.out.size))) (fun w k => HBx.out w (HK1.out.trans (k.mono HK1.out.size))) ?_
  rintro u7 u8 u28 u29 u30 u31 u32 u33 u34 u35 u36 u37 u38 u39 w2 ⟨A1, c1, A2, c2, rfl, rfl, ⟨k1, k2⟩, ⟨k3, k4⟩, hI1, hI2, hk⟩
  have HI1 := Lib.hid hI1
  have HI2 := Lib.hid hI2
  have HK := Lib.hid (HK1.out.trans (hk.mono HK1.out.size))
  clear hI1 hI2 hk HK1 HAx HBx HG1 HG2 h1 h2 hca hcb
  go_wp2_with fail
  go_loopw [9, 50] (fun s i wr => ∃ j : Nat, j ≤ na ∧ i = .int .i64 j ∧ s = .int .i64 (sumI (us.take j)) ∧ w2 = wr) (fun _ i _ => na - (intOf i).toNat)
  case atStart => exact ⟨0, Nat.zero_le _, rfl, rfl, by first | rfl | trivial⟩
  case round =>
    obtain ⟨j, hj, rfl, rfl, rfl⟩ := hrel
    by_cases hlt : j < na
    · obtain ⟨b, off, rfl, hb, c0⟩ := HI1.out j hlt
      have h3 := HBa.out j
      have h4 := (HPa.out j hlt).2.1
      have h5 := (HPa.out j hlt).1
      have hs := Lib.hid (HSa.out j hlt)
      generalize sumI (us.take j) = s at *
      generalize us.getD j 0 = z at *
      obtain ⟨h3, h6⟩ := h3
      have hji : (j : Int) < na := by omega
      go_wp2_with fail
      go_roundw
      case rel => exact ⟨j + 1, by omega, by go_num, by rw [hs.out], by first | rfl | trivial⟩
      case measure => simp [intOf]; omega
    · have hje : j = na := by omega
      have hno : ¬ (j : Int) < na := by omega
      have hst : sumI (us.take j) = T := by rw [hje]; exact HTa.out
      rw [hst]
      clear hst hje hlt hj HTa HSa HBa
      go_wp2_with fail
      go_loopw [10, 60] (fun s i wr => ∃ j : Nat, j ≤ nb ∧ i = .int .i64 j ∧ s = .int .i64 (sumI (bs.take j)) ∧ w2 = wr) (fun _ i _ => nb - (intOf i).toNat)
      case atStart => exact ⟨0, Nat.zero_le _, rfl, rfl, by first | rfl | trivial⟩
      case round =>
        obtain ⟨j, hj, rfl, rfl, rfl⟩ := hrel
        by_cases hlt : j < nb
        · obtain ⟨b, off, rfl, hb, c0⟩ := HI2.out j hlt
          have h3 := HBb.out j
          have h4 := (HPb.out j hlt).2.1
          have h5 := (HPb.out j hlt).1
          have hs := Lib.hid (HSb.out j hlt)
          generalize sumI (bs.take j) = s at *
          generalize bs.getD j 0 = z at *
          obtain ⟨h3, h6⟩ := h3
          have hji : (j : Int) < nb := by omega
          go_wp2_with fail
          go_roundw
          case rel => exact ⟨j + 1, by omega, by go_num, by rw [hs.out], by first | rfl | trivial⟩
          case measure => simp [intOf]; omega
        · have hje : j = nb := by omega
          have hno : ¬ (j : Int) < nb := by omega
          have hst : sumI (bs.take j) = U := by rw [hje]; exact HTb.out
          rw [hst]
          clear hst hje hlt hj HTb HSb HBb
          go_wp2_with fail
          go_loopw [15, 70] (fun o i wr => ∃ j n : Nat, j ≤ na ∧ n ≤ 6 * j ∧ i = .int .i64 j ∧ wr.ownsRow w2.heap.size 25 2 o n (flat (mid us bs TU j 0)) ∧ Kp w2.heap.size w2 wr) (fun _ i _ => na - (intOf i).toNat)
          case atStart => exact ⟨0, 0, Nat.zero_le _, Nat.zero_le _, rfl, by rw [HM0.out]; exact World.ownsRow_nil _ _ _ _, Kp.refl _ _⟩
          case round =>
            clear HM0
            obtain ⟨i, n, hi, hn, rfl, hown, hkp⟩ := hrel
            by_cases hlt : i < na
            · obtain ⟨b, off, rfl, hb, c0⟩ := (HI1.out.below (hkp.mono (Nat.le_refl _))) i hlt
              have hii : (i : Int) < na := by omega
              have HO := Lib.hid hown
              have HKp := Lib.hid hkp
              have ha := HPa.out i hlt
              have HMfi := Lib.hid (HMf.out i hlt)
              have HPi := Lib.hid (HPth.out i)
              have HMi := Lib.hid (HMid.out i)
              have HI1' := Lib.hid (HI1.out)
              generalize hav : us.getD i 0 = av at *
              have HAV := Lib.hid hav
              clear hown hkp hav
              go_wp2_with fail
              go_loopw [15, 76] (fun o t wr => ∃ k m : Nat, k ≤ nb ∧ m ≤ 6 * i + k ∧ t = .int .i64 k ∧ wr.ownsRow w2.heap.size 25 2 o m (flat (mid us bs TU i k)) ∧ Kp w2.heap.size w2 wr) (fun _ t _ => nb - (intOf t).toNat)
              case atStart => exact ⟨0, n, Nat.zero_le _, by omega, rfl, HO.out, HKp.out⟩
              case round =>
                clear HO HKp c0 hb
                obtain ⟨k, m, hk, hm, rfl, hown, hkp⟩ := hrel
                by_cases hltk : k < nb
                · obtain ⟨b2, off2, rfl, hb2, d0⟩ := (HI2.out.below (hkp.mono (Nat.le_refl _))) k hltk
                  have hkk : (k : Int) < nb := by omega
                  obtain ⟨e1, e2⟩ := HPi.out k hlt hltk
                  have hM := HMi.out k hltk
                  have hbv := HPb.out k hltk
                  generalize bs.getD k 0 = bv at *
                  have H1 := fun w X (hc : IsPrs w X 2 [(av, T), (bv, U)]) => Lib.hid (show Calls Try.prog 27 #[.slice X 2 2] w (ShPost w (ofN (av * bv) TU, ofD (av * bv) TU, 0)) from by
                    have h := path_any w X 2 2 [(av, T), (bv, U)] rfl (by decide) hc
                    rw [e1] at h
                    exact h)
                  have H2 := fun w X (hc : IsPrs w X 3 [(bv, U), (av, T), (1 + u, 1 + u)]) => Lib.hid (show Calls Try.prog 27 #[.slice X 3 3] w (ShPost w (ofN (av * bv) TU, ofD (av * bv) TU, 0)) from by
                    have h := path_any w X 3 3 [(bv, U), (av, T), (1 + u, 1 + u)] rfl (by decide) hc
                    rw [e2] at h
                    exact h)
                  generalize ofN (av * bv) TU = pn at *
                  generalize ofD (av * bv) TU = pd at *
                  have HM := Lib.hid hM
                  have HO := Lib.hid hown
                  have HKp := Lib.hid hkp
                  clear hM hown hkp e1 e2
                  go_wp2_with fail
                  have P := prs_new wr [(av, T), (bv, U)] 55
                  (with_reducible refine (H1 _ _ P).out.mono ?_)
                  clear P
                  rintro e y1 ⟨rfl, hk1⟩
                  have ka : Kp wr.heap.size wr y1 := ((Kp.refl _ _).alloc (Nat.le_refl _) _).trans (hk1.mono (by simp))
                  replace HO := Lib.hid (own_kp HO.out ka)
                  replace HKp := Lib.hid (HKp.out.trans (ka.mono HKp.out.size))
                  clear ka hk1 H1 d0 hb2
                  go_wp2_with fail
                  have P := prs_new (y1.alloc (.cells #[.int .i64 pn, .int .i64 pd] 25)) [(bv, U), (av, T), (1 + u, 1 + u)] 55
                  rw [show (World.alloc y1 _).heap.size = y1.heap.size + 1 by simp] at P
                  (with_reducible refine (H2 _ _ P).out.mono ?_)
                  clear P
                  rintro e y2 ⟨rfl, hk1⟩
                  have Z := ((C2.new y1 (.int .i64 pn) (.int .i64 pd) 25).alloc _).kp hk1
                  have ka : Kp y1.heap.size y1 y2 := (((Kp.refl _ _).alloc (Nat.le_refl _) _).alloc (by simp) _).trans (hk1.mono (by simp; omega))
                  replace HO := Lib.hid (own_kp HO.out ka)
                  replace HKp := Lib.hid (HKp.out.trans (ka.mono HKp.out.size))
                  generalize y1.heap.size = bZ at *
                  clear ka hk1 H2
                  have Z0 := Z.c0
                  have Z1 := Z.c1
                  have Zl := Z.lt
                  have hsz := HKp.out.size
                  go_wp2_with (at_builtin; refine wpList_append_rd _ rfl _ _ 44 rfl w2.heap.size 25 i0 (.agg #[.int .i64 0, .int .i64 0]) 2 16 Try.underlying44 HI.out HZ0.out HZ1.out HZ2.out rfl (by decide) _ m (flat (mid us bs TU i k)) rfl ?qc1 (some ⟨y2.heap.size + 1, 0, none⟩) 1 1 (flat [(pn, pd)]) rfl ?qc2 (flat_one [(pn, pd)]) ?qc4 ?qc5 ?qc6 ?_)
                  case qc1 => exact own_kp HO.out (((Kp.refl _ y2).alloc (Nat.le_refl _) _).alloc (by simp) _)
                  case qc2 => simpa using rd_pair (y2.alloc (.cells #[.int .i64 pn, .int .i64 pd] 25)) pn pd 25
                  case qc4 => unfold maxLen; omega
                  case qc5 => omega
                  case qc6 => simp; omega
                  intro v' y4 hown' hgrow
                  have HO2 := Lib.hid (show y4.ownsRow w2.heap.size 25 2 v' (m + 1) (flat (mid us bs TU i (k + 1))) by rw [HM.out]; exact hown')
                  have HK2 := Lib.hid (((HKp.out.alloc hsz _).alloc (by simp; omega) _).grown hgrow (by simp; omega) (fun g hg => (HO.out.lt g hg).1))
                  clear hown' hgrow HO HKp hsz Z Z0 Z1 Zl
                  go_wp2
                  go_roundw
                  case rel => exact ⟨k + 1, m + 1, by omega, by omega, by go_num, HO2.out, HK2.out⟩
                  case measure => simp [intOf]; omega
                · have hke : k = nb := by omega
                  have hno2 : ¬ (k : Int) < nb := by omega
                  rw [hke, HMfi.out] at hown
                  have HO2 := Lib.hid hown
                  have HK2 := Lib.hid hkp
                  have hm6 : m ≤ 6 * (i + 1) := by omega
                  clear hown hkp hke hltk hk
                  go_wp2_with fail
                  go_roundw
                  case rel => exact ⟨i + 1, m, by omega, hm6, by go_num, HO2.out, HK2.out⟩
                  case measure => simp [intOf]; omega
            · have hie : i = na := by omega
              have hno2 : ¬ (i : Int) < na := by omega
              rw [hie] at hown
              obtain ⟨B2, c4, rfl, _, _, _, hrd, _⟩ := own_form hown
              have hlen : (mid us bs TU na 0).length = n := by have := hrd.1; rw [flat_length] at this; omega
              have hpp := hrd.prs hlen
              have HS1 := Lib.hid (show Calls Try.prog 24 #[.slice B2 n c4] wr fun e w' => e = .returned (.tuple #[shr 1 1, .int .i64 0]) ∧ GrewS wr w' from by
                have h := sum_any wr B2 n c4 (mid us bs TU na 0) hlen (by omega) hpp
                rw [HSum.out n hlen] at h
                exact h)
              have HKF := Lib.hid (HK.out.trans (hkp.mono HK.out.size))
              clear hown hkp hrd hpp hlen hie hlt hi HSum HPth HMid HMf HPa HPb HK
              go_wp2_with fail
              refine HS1.out.mono ?_
              rintro e y1 ⟨rfl, hg1⟩
              have hsz := HKF.out.size
              have ka : Kp wr.heap.size wr (y1.alloc (.cells #[.int .i64 1, .int .i64 1] 25)) := (hg1.kp).alloc hg1.kp.size _
              replace HKF := Lib.hid (HKF.out.trans (ka.mono hsz))
              clear ka hg1 hsz
              go_wp2_with fail
              go_ret
              exact ⟨rfl, HKF.out⟩

set_option maxRecDepth 100000 in
set_option maxHeartbeats 1000000 in
theorem paths_none {W0 : World} (A B : Option Addr) (la ca lb cb ma mb na nb : Nat) (us bs : List Int) (h1 : ma ≤ ca) (h2 : mb ≤ cb) (hca : (ca : Int) ≤ 9223372036854775807) (hcb : (cb : Int) ≤ 9223372036854775807)
    (g1 : (ma = la ∧ (la : Int) ≤ 6) ∨ (ma = 6 ∧ (6 : Int) < la)) (g2 : (mb = lb ∧ (lb : Int) ≤ 6) ∨ (mb = 6 ∧ (6 : Int) < lb))
    (HA : ∀ w, Kp W0.heap.size W0 w → Calls Try.prog 22 #[.slice A ma ca] w (OwnPost w 3 1 na (us.map (Value.int .i64)))) (HB : ∀ w, Kp W0.heap.size W0 w → Calls Try.prog 22 #[.slice B mb cb] w (OwnPost w 3 1 nb (bs.map (Value.int .i64))))
    (hz : na = 0 ∨ (0 < na ∧ nb = 0)) (u : Int) :
    Calls Try.prog 9 #[.slice A la ca, .slice B lb cb, .int .u8 u] W0 fun e w' => e = .returned (.bool true) ∧ Kp W0.heap.size W0 w' := by
  have HAw := fun w => Lib.hid (awake_any w)
  have HAx := Lib.hid HA
  have HBx := Lib.hid HB
  have HG1 := Lib.hid g1
  have HG2 := Lib.hid g2
  have HZ := Lib.hid hz
  clear HA HB g1 g2 hz
  go_enter Try.func9, Try.ntmps9
  go_wp2_with fail
  (with_reducible refine (HAw _).out.mono ?_)
  rintro e w1 ⟨rfl, hk⟩
  have HK1 := Lib.hid hk
  clear hk HAw
  go_upto_region 3 with fail
  refine paths_r3 (W := w1) (Kp.refl _ _) h1 h2 hca hcb HG1.out HG2.out (fun w k => HAx.out w (HK1.out.trans (k.mono HK1.out.size))) (fun w k => HBx.out w (HK1.out.trans (k.mono HK1.out.size))) ?_
  rintro u7 u8 u28 u29 u30 u31 u32 u33 u34 u35 u36 u37 u38 u39 w2 ⟨A1, c1, A2, c2, rfl, rfl, ⟨k1, k2⟩, ⟨k3, k4⟩, _, _, hk⟩
  have HK := Lib.hid (HK1.out.trans (hk.mono HK1.out.size))
  clear hk HK1 HAx HBx HG1 HG2 h1 h2 hca hcb k1 k2 k3 k4
  rcases HZ.out with rfl | ⟨hp, rfl⟩
  · go_wp2_with fail
    all_goals
      go_ret
      exact ⟨rfl, HK.out⟩
  · have je : ((na : Int) == 0) = false := beq_eq_false_iff_ne.2 (by omega)
    go_wp2_with fail
    all_goals
      go_ret
      exact ⟨rfl, HK.out⟩

theorem law9 {W : World} (A : Option Addr) (la ca : Nat) (l : List Int) (hl : l.length = la) (hc : la ≤ ca) (hm : (ca : Int) ≤ 9223372036854775807) (_ : A = none → ca = 0) (hi : IsInts W .u8 A la l) (hw : ∀ n ∈ l, (Lit.int .u8 n).wf = true)
    (B : Option Addr) (lb cb : Nat) (k : List Int) (hl2 : k.length = lb) (hc2 : lb ≤ cb) (hm2 : (cb : Int) ≤ 9223372036854775807) (_ : B = none → cb = 0) (hi2 : IsInts W .u8 B lb k) (hw2 : ∀ n ∈ k, (Lit.int .u8 n).wf = true) (u : Int) (hu : (Lit.int .u8 u).wf = true) :
    Calls Try.prog 9 #[.slice A la ca, .slice B lb cb, .int .u8 u] W fun e w' => e = .returned (.bool true) ∧ Kp W.heap.size W w' := by
  have pre : ∀ (A : Option Addr) (la ca : Nat) (l : List Int), l.length = la → la ≤ ca → (ca : Int) ≤ 9223372036854775807 → IsInts W .u8 A la l → (∀ n ∈ l, (Lit.int .u8 n).wf = true) →
      ∃ (ma na : Nat) (us : List Int), ma ≤ ca ∧ ((ma = la ∧ (la : Int) ≤ 6) ∨ (ma = 6 ∧ (6 : Int) < la)) ∧ (∀ w, Kp W.heap.size W w → Calls Try.prog 22 #[.slice A ma ca] w (OwnPost w 3 1 na (us.map (Value.int .i64)))) ∧ us.length = na ∧ na ≤ 6 ∧ ∀ w ∈ us, 1 ≤ w ∧ w ≤ 200 := by
    intro A la ca l hl hc hm hi hw
    refine ⟨min 6 la, (wgt (l.take (min 6 la))).length, wgt (l.take (min 6 la)), by omega, by omega, fun w kp => ?_, rfl, ?_, fun w h => wgt_bd h⟩
    · exact weights_any w A (min 6 la) ca (l.take (min 6 la)) (by rw [List.length_take]; omega) (by omega) hm ((hi.take' (by omega)).below kp) (fun n hn => hw n (List.mem_of_mem_take hn))
    · rw [wgt_len, List.length_take]
      omega
  obtain ⟨ma, na, us, x1, x2, x3, x4, x5, x6⟩ := pre A la ca l hl hc hm hi hw
  obtain ⟨mb, nb, bs, y1, y2, y3, y4, y5, y6⟩ := pre B lb cb k hl2 hc2 hm2 hi2 hw2
  have hb := bounds_u8 hu
  rcases Nat.eq_zero_or_pos na with h | h
  · exact paths_none A B la ca lb cb ma mb na nb us bs x1 y1 hm hm2 x2 y2 x3 y3 (Or.inl h) u
  · rcases Nat.eq_zero_or_pos nb with h' | h'
    · exact paths_none A B la ca lb cb ma mb na nb us bs x1 y1 hm hm2 x2 y2 x3 y3 (Or.inr ⟨h, h'⟩) u
    · exact paths_walk A B la ca lb cb ma mb na nb us bs x1 y1 hm hm2 x2 y2 x3 y3 x4 y4 x5 y5 x6 y6 h h' u hb.1 hb.2
end Go.Proofs.Ytjffikiebeneaaa
