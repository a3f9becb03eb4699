/-
  The contracts of Scale, the program's and the reference's.
-/
import Derived.Test.YtjffikiebeneaaaRefCm17
namespace Go.Proofs.Ytjffikiebeneaaa
open Go.RowKit

theorem div_big {p q : Int} (p0 : 0 ≤ p) (p1 : p ≤ 9223372036854775807) (q0 : 0 < q) :
    q ≠ 0 ∧ (q == 0) = false ∧ Int.tdiv p q = p / q ∧ Int.tmod p q = p % q ∧ IntKind.i64.wrap (p / q) = p / q ∧ IntKind.i64.wrap (p % q) = p % q ∧ 0 ≤ p / q ∧ p / q ≤ p ∧ 0 ≤ p % q ∧ p % q < q := by
  have z1 : q ≠ 0 := by omega
  have h0 : 0 ≤ p / q := Int.ediv_nonneg (by omega) (by omega)
  have h1 : p / q ≤ p := Int.ediv_le_self q p0
  have h2 := Int.emod_nonneg p (b := q) (by omega)
  have h3 := Int.emod_lt_of_pos p q0
  have h4 : p % q ≤ p := by
    have := Int.mul_ediv_add_emod p q
    have := Int.mul_nonneg (Int.le_of_lt q0) h0
    omega
  exact ⟨z1, beq_eq_false_iff_ne.2 z1, Int.tdiv_eq_ediv_of_nonneg p0, Int.tmod_eq_emod_of_nonneg p0, wrap_in (by omega) (by omega), wrap_in (by omega) (by omega), h0, h1, h2, h3⟩
theorem sc_bad {a b n : Int} (h : rightS a b = false ∨ n < 0 ∨ 2147483648 < n) : scE a b n = 2 ∧ scK a b n = 0 ∧ scN a b n = 0 ∧ scD a b n = 0 := by
  have e : scE a b n = 2 := by
    unfold scE
    rcases h with h | h
    · rw [h]; rfl
    · rw [if_neg (show ¬ (0 ≤ n ∧ n ≤ 2147483648) by omega)]
      split <;> rfl
  unfold scK scN scD
  rw [e]
  exact ⟨rfl, rfl, rfl, rfl⟩
theorem sc_good {a b n : Int} (h : rightS a b = true) (n0 : 0 ≤ n) (n1 : n ≤ 2147483648) : scE a b n = 0 ∧ scK a b n = n * a / b ∧ scN a b n = ofN (n * a % b) b ∧ scD a b n = ofD (n * a % b) b ∧ ofE (n * a % b) b = 0 ∧ 0 ≤ n * a ∧ n * a ≤ 4611686018427387904 ∧ 0 < b ∧ b ≤ 2147483648 ∧ n * a / b * b = n * a - n * a % b := by
  have e : scE a b n = 0 := by
    unfold scE
    rw [h, if_pos rfl, if_pos ⟨n0, n1⟩]
  obtain ⟨a0, a1, b0, b1, _⟩ := rightS_of h
  have x0 : 0 ≤ n * a := Int.mul_nonneg n0 a0
  have x1 : n * a ≤ 2147483648 * 2147483648 := Int.mul_le_mul n1 a1 a0 (by omega)
  have h2 := Int.emod_nonneg (n * a) (b := b) (by omega)
  have h3 := Int.emod_lt_of_pos (n * a) (b := b) (by omega)
  have f := of_fits (n := n * a % b) (d := b) h2 (by omega) (by omega) b1
  have hm := Int.mul_ediv_add_emod (n * a) b
  rw [Int.mul_comm b] at hm
  unfold scK scN scD
  rw [e]
  exact ⟨rfl, rfl, rfl, rfl, f.1, x0, by omega, by omega, b1, by omega⟩
/-- What is known behind the parameter's box and the result's cell. -/
structure B1 (W w : World) (a b : Int) : Prop where
  X : C2 w W.heap.size (.int .i64 a) (.int .i64 b)
  R : C2 w (W.heap.size + 1) (.int .i64 0) (.int .i64 0)
  F : Fz w (W.heap.size + 1)
  G : GrewS W w
theorem B1.new (W : World) (a b : Int) (t : TypeId) : B1 W ((W.alloc (.cells #[.int .i64 a, .int .i64 b] t)).alloc (.cells #[.int .i64 0, .int .i64 0] t)) a b := by
  refine ⟨(C2.new W _ _ t).alloc _, ?_, ?_, ((((GrewS.refl W).alloc _).alloc _))⟩
  · simpa using C2.new (W.alloc (.cells #[.int .i64 a, .int .i64 b] t)) (.int .i64 0) (.int .i64 0) t
  · simpa using Fz.new (W.alloc (.cells #[.int .i64 a, .int .i64 b] t)) #[.int .i64 0, .int .i64 0] t
theorem B1.grew {W w w' : World} {a b : Int} (h : B1 W w a b) (g : GrewS w w') : B1 W w' a b := ⟨h.X.kp g.kp, h.R.kp g.kp, h.F.kp g.kp, h.G.trans g⟩

set_option maxRecDepth 100000 in
set_option maxHeartbeats 1000000 in
theorem scale_any (a b n : Int) (W : World) :
    Calls Try.prog 26 #[shr a b, .int .i64 n] W fun e w' => e = .returned (.tuple #[.int .i64 (scK a b n), shr (scN a b n) (scD a b n), .int .i64 (scE a b n)]) ∧ GrewS W w' := by
  cases h1 : rightS a b with
  | false =>
    obtain ⟨e1, e2, e3, e4⟩ := sc_bad (a := a) (b := b) (n := n) (Or.inl h1)
    rw [e1, e2, e3, e4]
    have H1 := fun W => Lib.hid (right_f W h1)
    clear h1 e1 e2 e3 e4
    go_enter Try.func26, Try.ntmps26
    go_wp2_with fail
    refine (H1 _).out.mono ?_
    rintro e w1 ⟨rfl, hg⟩
    have B := (B1.new W a b 25).grew hg.s
    clear hg
    have R0 := B.R.c0
    have R1 := B.R.c1
    have F2 := B.F.2
    have HG := Lib.hid B.G
    clear B
    go_wp2_with fail
    exact bodyPost_ret (v := .tuple #[.int .i64 0, shr 0 0, .int .i64 2]) (by simp [results, Try.results26, go_sem, R0, R1]) rfl ⟨rfl, HG.out.set2 (B := W.heap.size + 1) (by omega) _ _⟩
  | true =>
    by_cases hn : n < 0 ∨ 2147483648 < n
    · obtain ⟨e1, e2, e3, e4⟩ := sc_bad (a := a) (b := b) (n := n) (Or.inr hn)
      rw [e1, e2, e3, e4]
      have H1 := fun W => Lib.hid (right_t W h1)
      have H2 := fun W => Lib.hid (in_f (n := n) (l := 0) (h := 2147483648) W hn)
      clear h1 e1 e2 e3 e4 hn
      go_enter Try.func26, Try.ntmps26
      go_wp2_with fail
      refine (H1 _).out.mono ?_
      rintro e w1 ⟨rfl, hg⟩
      have B := (B1.new W a b 25).grew hg.s
      clear hg
      go_wp2_with fail
      refine (H2 _).out.mono ?_
      rintro e w2 ⟨rfl, rfl⟩
      have R0 := B.R.c0
      have R1 := B.R.c1
      have F2 := B.F.2
      have HG := Lib.hid B.G
      clear B
      go_wp2_with fail
      exact bodyPost_ret (v := .tuple #[.int .i64 0, shr 0 0, .int .i64 2]) (by simp [results, Try.results26, go_sem, R0, R1]) rfl ⟨rfl, HG.out.set2 (B := W.heap.size + 1) (by omega) _ _⟩
    · have n0 : 0 ≤ n := by omega
      have n1 : n ≤ 2147483648 := by omega
      obtain ⟨e1, e2, e3, e4, e5, x0, x1, b0, b1, _⟩ := sc_good h1 n0 n1
      rw [e1, e2, e3, e4]
      obtain ⟨u1, u2, u3, u4, u5, u6, u7, u8, u9, u10⟩ := div_big (p := n * a) (q := b) x0 (by omega) b0
      have w1 := wrap_in (x := n * a) (by omega) (by omega)
      have H1 := fun W => Lib.hid (right_t W h1)
      have H2 := fun W => Lib.hid (in_t (n := n) (l := 0) (h := 2147483648) W n0 n1)
      have H3' := fun W => of_any (n := n * a % b) (d := b) W (by omega) (by omega)
      rw [e5] at H3'
      generalize ofN (n * a % b) b = rn at *
      generalize ofD (n * a % b) b = rd at *
      have H3 := fun W => Lib.hid (H3' W)
      clear h1 e1 e2 e3 e4 e5 hn H3'
      go_enter Try.func26, Try.ntmps26
      go_wp2_with fail
      refine (H1 _).out.mono ?_
      rintro e w1 ⟨rfl, hg⟩
      have B := (B1.new W a b 25).grew hg.s
      clear hg
      go_wp2_with fail
      refine (H2 _).out.mono ?_
      rintro e w2 ⟨rfl, rfl⟩
      obtain ⟨X, R, FR, HGG⟩ := B
      have hg := Lib.hid HGG
      clear HGG
      go_upto_region 3 with fail
      refine wp_region_anyN (fun w' => w'.cell? ⟨W.heap.size, 0, none⟩ = some (.int .i64 a) ∧ w'.cell? ⟨W.heap.size, 1, none⟩ = some (.int .i64 b)) 15 (by kernel_rfl) ?_
      replace X := X.drew
      replace R := R.drew
      replace FR := FR.drew
      replace hg := Lib.hid hg.out.drew
      generalize w1.drew = w1 at *
      have hS : w1.cell? ⟨W.heap.size, 0, none⟩ = some (.int .i64 a) ∧ w1.cell? ⟨W.heap.size, 1, none⟩ = some (.int .i64 b) := ⟨X.c0, X.c1⟩
      refine anyN_take 0 (v := ?_) rfl (by kernel_rfl) (by kernel_rfl) (by kernel_rfl) (by kernel_rfl) (by kernel_rfl) (fun _ _ _ h => h) (Or.inl ⟨by rfl, ?_⟩) (by assumption) ?_
      rotate_left
      · intro w hSw
        obtain ⟨_, _⟩ := hSw
        go_simp
        try with_reducible rfl
      simp only [Act.put, List.setIfInBounds_toArray, List.set_cons_zero, List.set_cons_succ]
      refine anyN_take 1 (v := ?_) rfl (by kernel_rfl) (by kernel_rfl) (by kernel_rfl) (by kernel_rfl) (by kernel_rfl) (fun _ _ _ h => h) (Or.inl ⟨by rfl, ?_⟩) (by assumption) ?_
      rotate_left
      · intro w hSw
        obtain ⟨_, _⟩ := hSw
        go_simp
        try with_reducible rfl
      simp only [Act.put, List.setIfInBounds_toArray, List.set_cons_zero, List.set_cons_succ]
      refine anyN_take 2 (v := ?_) rfl (by kernel_rfl) (by kernel_rfl) (by kernel_rfl) (by kernel_rfl) (by kernel_rfl) (fun _ _ _ h => h) (Or.inl ⟨by rfl, ?_⟩) (by assumption) ?_
      rotate_left
      · intro w hSw
        obtain ⟨_, _⟩ := hSw
        go_simp
        try with_reducible rfl
      simp only [Act.put, List.setIfInBounds_toArray, List.set_cons_zero, List.set_cons_succ]
      refine anyN_take 3 (v := ?_) rfl (by kernel_rfl) (by kernel_rfl) (by kernel_rfl) (by kernel_rfl) (by kernel_rfl) (fun _ _ _ h => h) (Or.inl ⟨by rfl, ?_⟩) (by assumption) ?_
      rotate_left
      · intro w hSw
        obtain ⟨_, _⟩ := hSw
        go_simp
        try with_reducible rfl
      simp only [Act.put, List.setIfInBounds_toArray, List.set_cons_zero, List.set_cons_succ]
      refine anyN_take 4 (v := ?_) rfl (by kernel_rfl) (by kernel_rfl) (by kernel_rfl) (by kernel_rfl) (by kernel_rfl) (fun _ _ _ h => h) (Or.inl ⟨by rfl, ?_⟩) (by assumption) ?_
      rotate_left
      · intro w hSw
        obtain ⟨_, _⟩ := hSw
        go_simp
        try with_reducible rfl
      simp only [Act.put, List.setIfInBounds_toArray, List.set_cons_zero, List.set_cons_succ]
      refine anyN_take 5 (v := ?_) rfl (by kernel_rfl) (by kernel_rfl) (by kernel_rfl) (by kernel_rfl) (by kernel_rfl) (fun _ _ _ h => h) (Or.inl ⟨by rfl, ?_⟩) (by assumption) ?_
      rotate_left
      · intro w hSw
        obtain ⟨_, _⟩ := hSw
        go_simp
        try with_reducible rfl
      simp only [Act.put, List.setIfInBounds_toArray, List.set_cons_zero, List.set_cons_succ]
      refine anyN_take 6 (v := ?_) rfl (by kernel_rfl) (by kernel_rfl) (by kernel_rfl) (by kernel_rfl) (by kernel_rfl) (fun _ _ _ h => h) (Or.inl ⟨by rfl, ?_⟩) (by assumption) ?_
      rotate_left
      · intro w hSw
        obtain ⟨_, _⟩ := hSw
        go_simp
        try with_reducible rfl
      simp only [Act.put, List.setIfInBounds_toArray, List.set_cons_zero, List.set_cons_succ]
      refine anyN_take 7 (v := ?_) rfl (by kernel_rfl) (by kernel_rfl) (by kernel_rfl) (by kernel_rfl) (by kernel_rfl) (fun _ _ _ h => h) (Or.inl ⟨by rfl, ?_⟩) (by assumption) ?_
      rotate_left
      · intro w hSw
        obtain ⟨_, _⟩ := hSw
        go_simp
        try with_reducible rfl
      simp only [Act.put, List.setIfInBounds_toArray, List.set_cons_zero, List.set_cons_succ]
      refine anyN_take 8 (v := ?_) rfl (by kernel_rfl) (by kernel_rfl) (by kernel_rfl) (by kernel_rfl) (by kernel_rfl) (fun _ _ _ h => h) (Or.inl ⟨by rfl, ?_⟩) (by assumption) ?_
      rotate_left
      · intro w hSw
        obtain ⟨_, _⟩ := hSw
        go_simp
        try with_reducible rfl
      simp only [Act.put, List.setIfInBounds_toArray, List.set_cons_zero, List.set_cons_succ]
      refine anyN_two 9 13 rfl rfl (by kernel_rfl) rfl rfl ?_ ?_
      · go_simp
        (with_reducible refine (H3 _).out.mono ?_)
        rintro e wv1 ⟨rfl, hg1⟩
        have k1 := hg1.kp
        replace X := X.kp k1
        replace R := R.kp k1
        replace FR := FR.kp k1
        replace hg := Lib.hid (hg.out.trans hg1)
        clear k1 hg1
        dsimp only
        refine and_keep ⟨X.c0, X.c1⟩ (fun hS => ?_)
        refine anyN_take 10 (v := ?_) rfl (by kernel_rfl) (by kernel_rfl) (by kernel_rfl) (by kernel_rfl) (by kernel_rfl) (fun _ _ _ h => h) (Or.inl ⟨by rfl, ?_⟩) (by assumption) ?_
        rotate_left
        · intro w hSw
          obtain ⟨_, _⟩ := hSw
          go_simp
          try with_reducible rfl
        simp only [Act.put, List.setIfInBounds_toArray, List.set_cons_zero, List.set_cons_succ]
        refine anyN_take 11 (v := ?_) rfl (by kernel_rfl) (by kernel_rfl) (by kernel_rfl) (by kernel_rfl) (by kernel_rfl) (fun _ _ _ h => h) (Or.inl ⟨by rfl, ?_⟩) (by assumption) ?_
        rotate_left
        · intro w hSw
          obtain ⟨_, _⟩ := hSw
          go_simp
          try with_reducible rfl
        simp only [Act.put, List.setIfInBounds_toArray, List.set_cons_zero, List.set_cons_succ]
        refine anyN_take 12 (v := ?_) rfl (by kernel_rfl) (by kernel_rfl) (by kernel_rfl) (by kernel_rfl) (by kernel_rfl) (fun _ _ _ h => h) (Or.inl ⟨by rfl, ?_⟩) (by assumption) ?_
        rotate_left
        · intro w hSw
          obtain ⟨_, _⟩ := hSw
          go_simp
          try with_reducible rfl
        simp only [Act.put, List.setIfInBounds_toArray, List.set_cons_zero, List.set_cons_succ]
        refine anyN_one 13 rfl (by kernel_rfl) rfl ?_
        go_simp
        have ne_Z_X : wv1.heap.size ≠ W.heap.size := Nat.ne_of_gt X.lt
        have ne_Z_R : wv1.heap.size ≠ (W.heap.size + 1) := Nat.ne_of_gt R.lt
        have le_Z : W.heap.size ≤ wv1.heap.size := hg.out.kp.size
        have Z := C2.new wv1 (.int .i64 0) (.int .i64 0) 25
        have FZ := Fz.new wv1 #[.int .i64 0, .int .i64 0] 25
        replace X := X.alloc (.cells #[.int .i64 0, .int .i64 0] 25)
        replace R := R.alloc (.cells #[.int .i64 0, .int .i64 0] 25)
        replace FR := FR.alloc (.cells #[.int .i64 0, .int .i64 0] 25)
        replace hg := Lib.hid (hg.out.alloc (.cells #[.int .i64 0, .int .i64 0] 25))
        generalize wv1.alloc (.cells #[.int .i64 0, .int .i64 0] 25) = wa2 at *
        generalize wv1.heap.size = bZ at *
        refine and_keep ⟨X.c0, X.c1⟩ (fun hS => ?_)
        have Z_0 := Z.c0
        have Z_1 := Z.c1
        have FZ_2 := FZ.2
        refine anyN_one 14 rfl (by kernel_rfl) rfl ?_
        go_simp
        clear Z_0 Z_1 FZ_2
        replace X := X.far2 ne_Z_X (.int .i64 rn) (.int .i64 rd)
        replace R := R.far2 ne_Z_R (.int .i64 rn) (.int .i64 rd)
        replace FR := (FR.set ⟨bZ, 0, none⟩ (.int .i64 rn)).set ⟨bZ, 1, none⟩ (.int .i64 rd)
        replace Z := Z.set (.int .i64 rn) (.int .i64 rd)
        replace FZ := (FZ.set ⟨bZ, 0, none⟩ (.int .i64 rn)).set ⟨bZ, 1, none⟩ (.int .i64 rd)
        replace hg := Lib.hid (hg.out.set2 (B := bZ) le_Z (.int .i64 rn) (.int .i64 rd))
        generalize World.setCell _ _ _ = ws3 at *
        try refine and_keep ⟨X.c0, X.c1⟩ (fun hS => ?_)
        refine anyN_one 15 rfl (by kernel_rfl) rfl ?_
        go_simp
        refine anyN_done (by kernel_rfl) ?_
        clear hS
        have X0 := X.c0
        have X1 := X.c1
        have Z0 := Z.c0
        have Z1 := Z.c1
        have R0 := R.c0
        have R1 := R.c1
        have F2 := FR.2
        clear X Z R FR FZ
        go_wp2_with fail
        go_region
        all_goals
          go_wp2_with fail
          exact bodyPost_ret (v := .tuple #[.int .i64 (n * a / b), shr rn rd, .int .i64 0]) (by simp [results, Try.results26, go_sem, R0, R1]) rfl ⟨rfl, by repeat with_reducible first | exact hg.out | apply GrewS.drewN | apply GrewS.drew | (refine GrewS.setCell ?_ (by first | (simp; done) | (simp; omega)) _)⟩
      · go_simp
        have ne_Z_X : w1.heap.size ≠ W.heap.size := Nat.ne_of_gt X.lt
        have ne_Z_R : w1.heap.size ≠ (W.heap.size + 1) := Nat.ne_of_gt R.lt
        have le_Z : W.heap.size ≤ w1.heap.size := hg.out.kp.size
        have Z := C2.new w1 (.int .i64 0) (.int .i64 0) 25
        have FZ := Fz.new w1 #[.int .i64 0, .int .i64 0] 25
        replace X := X.alloc (.cells #[.int .i64 0, .int .i64 0] 25)
        replace R := R.alloc (.cells #[.int .i64 0, .int .i64 0] 25)
        replace FR := FR.alloc (.cells #[.int .i64 0, .int .i64 0] 25)
        replace hg := Lib.hid (hg.out.alloc (.cells #[.int .i64 0, .int .i64 0] 25))
        generalize w1.alloc (.cells #[.int .i64 0, .int .i64 0] 25) = wa4 at *
        generalize w1.heap.size = bZ at *
        refine and_keep ⟨X.c0, X.c1⟩ (fun hS => ?_)
        refine anyN_one 9 rfl (by kernel_rfl) rfl ?_
        go_simp
        (with_reducible refine (H3 _).out.mono ?_)
        rintro e wv5 ⟨rfl, hg1⟩
        have k1 := hg1.kp
        replace X := X.kp k1
        replace R := R.kp k1
        replace FR := FR.kp k1
        replace Z := Z.kp k1
        replace FZ := FZ.kp k1
        replace hg := Lib.hid (hg.out.trans hg1)
        clear k1 hg1
        dsimp only
        refine and_keep ⟨X.c0, X.c1⟩ (fun hS => ?_)
        refine anyN_take 10 (v := ?_) rfl (by kernel_rfl) (by kernel_rfl) (by kernel_rfl) (by kernel_rfl) (by kernel_rfl) (fun _ _ _ h => h) (Or.inl ⟨by rfl, ?_⟩) (by assumption) ?_
        rotate_left
        · intro w hSw
          obtain ⟨_, _⟩ := hSw
          go_simp
          try with_reducible rfl
        simp only [Act.put, List.setIfInBounds_toArray, List.set_cons_zero, List.set_cons_succ]
        refine anyN_take 11 (v := ?_) rfl (by kernel_rfl) (by kernel_rfl) (by kernel_rfl) (by kernel_rfl) (by kernel_rfl) (fun _ _ _ h => h) (Or.inl ⟨by rfl, ?_⟩) (by assumption) ?_
        rotate_left
        · intro w hSw
          obtain ⟨_, _⟩ := hSw
          go_simp
          try with_reducible rfl
        simp only [Act.put, List.setIfInBounds_toArray, List.set_cons_zero, List.set_cons_succ]
        refine anyN_take 12 (v := ?_) rfl (by kernel_rfl) (by kernel_rfl) (by kernel_rfl) (by kernel_rfl) (by kernel_rfl) (fun _ _ _ h => h) (Or.inl ⟨by rfl, ?_⟩) (by assumption) ?_
        rotate_left
        · intro w hSw
          obtain ⟨_, _⟩ := hSw
          go_simp
          try with_reducible rfl
        simp only [Act.put, List.setIfInBounds_toArray, List.set_cons_zero, List.set_cons_succ]
        have Z_0 := Z.c0
        have Z_1 := Z.c1
        have FZ_2 := FZ.2
        refine anyN_one 14 rfl (by kernel_rfl) rfl ?_
        go_simp
        clear Z_0 Z_1 FZ_2
        replace X := X.far2 ne_Z_X (.int .i64 rn) (.int .i64 rd)
        replace R := R.far2 ne_Z_R (.int .i64 rn) (.int .i64 rd)
        replace FR := (FR.set ⟨bZ, 0, none⟩ (.int .i64 rn)).set ⟨bZ, 1, none⟩ (.int .i64 rd)
        replace Z := Z.set (.int .i64 rn) (.int .i64 rd)
        replace FZ := (FZ.set ⟨bZ, 0, none⟩ (.int .i64 rn)).set ⟨bZ, 1, none⟩ (.int .i64 rd)
        replace hg := Lib.hid (hg.out.set2 (B := bZ) le_Z (.int .i64 rn) (.int .i64 rd))
        generalize World.setCell _ _ _ = ws6 at *
        try refine and_keep ⟨X.c0, X.c1⟩ (fun hS => ?_)
        refine anyN_one 15 rfl (by kernel_rfl) rfl ?_
        go_simp
        refine anyN_done (by kernel_rfl) ?_
        clear hS
        have X0 := X.c0
        have X1 := X.c1
        have Z0 := Z.c0
        have Z1 := Z.c1
        have R0 := R.c0
        have R1 := R.c1
        have F2 := FR.2
        clear X Z R FR FZ
        go_wp2_with fail
        go_region
        all_goals
          go_wp2_with fail
          exact bodyPost_ret (v := .tuple #[.int .i64 (n * a / b), shr rn rd, .int .i64 0]) (by simp [results, Try.results26, go_sem, R0, R1]) rfl ⟨rfl, by repeat with_reducible first | exact hg.out | apply GrewS.drewN | apply GrewS.drew | (refine GrewS.setCell ?_ (by first | (simp; done) | (simp; omega)) _)⟩

set_option maxRecDepth 100000 in
set_option maxHeartbeats 1000000 in
theorem refScale_any (a b n : Int) (W : World) :
    Calls Try.prog 45 #[shr a b, .int .i64 n] W fun e w' => e = .returned (.tuple #[.int .i64 (scK a b n), shr (scN a b n) (scD a b n), .int .i64 (scE a b n)]) ∧ GrewS W w' := by
  cases h1 : rightS a b with
  | false =>
    obtain ⟨e1, e2, e3, e4⟩ := sc_bad (a := a) (b := b) (n := n) (Or.inl h1)
    rw [e1, e2, e3, e4]
    have H1 := fun W => Lib.hid (refRight_f W h1)
    clear h1 e1 e2 e3 e4
    go_enter Try.func45, Try.ntmps45
    go_wp2_with fail
    refine (H1 _).out.mono ?_
    rintro e w1 ⟨rfl, hg⟩
    have B := (B1.new W a b 67).grew hg.s
    clear hg
    have R0 := B.R.c0
    have R1 := B.R.c1
    have F2 := B.F.2
    have HG := Lib.hid B.G
    clear B
    go_wp2_with fail
    exact bodyPost_ret (v := .tuple #[.int .i64 0, shr 0 0, .int .i64 2]) (by simp [results, Try.results45, go_sem, R0, R1]) rfl ⟨rfl, HG.out.set2 (B := W.heap.size + 1) (by omega) _ _⟩
  | true =>
    by_cases hn : n < 0 ∨ 2147483648 < n
    · obtain ⟨e1, e2, e3, e4⟩ := sc_bad (a := a) (b := b) (n := n) (Or.inr hn)
      rw [e1, e2, e3, e4]
      have H1 := fun W => Lib.hid (refRight_t W h1)
      clear h1 e1 e2 e3 e4
      rcases Int.lt_or_le n 0 with hn | hm
      · go_enter Try.func45, Try.ntmps45
        go_wp2_with fail
        refine (H1 _).out.mono ?_
        rintro e w1 ⟨rfl, hg⟩
        have B := (B1.new W a b 67).grew hg.s
        clear hg
        have R0 := B.R.c0
        have R1 := B.R.c1
        have F2 := B.F.2
        have HG := Lib.hid B.G
        clear B
        go_wp2_with fail
        exact bodyPost_ret (v := .tuple #[.int .i64 0, shr 0 0, .int .i64 2]) (by simp [results, Try.results45, go_sem, R0, R1]) rfl ⟨rfl, HG.out.set2 (B := W.heap.size + 1) (by omega) _ _⟩
      · have hn : 2147483648 < n := by omega
        go_enter Try.func45, Try.ntmps45
        go_wp2_with fail
        refine (H1 _).out.mono ?_
        rintro e w1 ⟨rfl, hg⟩
        have B := (B1.new W a b 67).grew hg.s
        clear hg
        have R0 := B.R.c0
        have R1 := B.R.c1
        have F2 := B.F.2
        have HG := Lib.hid B.G
        clear B
        go_wp2_with fail
        exact bodyPost_ret (v := .tuple #[.int .i64 0, shr 0 0, .int .i64 2]) (by simp [results, Try.results45, go_sem, R0, R1]) rfl ⟨rfl, HG.out.set2 (B := W.heap.size + 1) (by omega) _ _⟩
    · have n0 : 0 ≤ n := by omega
      have n1 : n ≤ 2147483648 := by omega
      obtain ⟨e1, e2, e3, e4, e5, x0, x1, b0, b1, x3⟩ := sc_good h1 n0 n1
      rw [e1, e2, e3, e4]
      obtain ⟨u1, u2, u3, u4, u5, u6, u7, u8, u9, u10⟩ := div_big (p := n * a) (q := b) x0 (by omega) b0
      have w1 := wrap_in (x := n * a) (by omega) (by omega)
      have w2 := wrap_in (x := n * a / b * b) (by omega) (by omega)
      have x4 : n * a - n * a / b * b = n * a % b := by omega
      have w3 : IntKind.i64.wrap (n * a - n * a / b * b) = n * a % b := by rw [wrap_in (by omega) (by omega), x4]
      have H1 := fun W => Lib.hid (refRight_t W h1)
      have H3' := fun W => refOf_any (n := n * a % b) (d := b) W (by omega) (by omega)
      rw [e5] at H3'
      generalize ofN (n * a % b) b = rn at *
      generalize ofD (n * a % b) b = rd at *
      have H3 := fun W => Lib.hid (H3' W)
      clear h1 e1 e2 e3 e4 e5 hn H3'
      clear x3 x4
      go_enter Try.func45, Try.ntmps45
      go_wp2_with fail
      refine (H1 _).out.mono ?_
      rintro e w1 ⟨rfl, hg⟩
      have B := (B1.new W a b 67).grew hg.s
      clear hg
      obtain ⟨X, R, FR, HGG⟩ := B
      have X0 := X.c0
      have X1 := X.c1
      go_wp2_with fail
      (with_reducible refine (H3 _).out.mono ?_)
      rintro e w2 ⟨rfl, hg1⟩
      have k1 := hg1.kp
      replace R := R.kp k1
      replace FR := FR.kp k1
      have hg := Lib.hid (HGG.trans hg1)
      have hlt := R.lt
      clear k1 hg1 X0 X1 X HGG
      have R0 := R.c0
      have R1 := R.c1
      have F2 := FR.2
      go_wp2_with fail
      go_region
      all_goals
        go_wp2_with fail
        exact bodyPost_ret (v := .tuple #[.int .i64 (n * a / b), shr rn rd, .int .i64 0]) (by simp [results, Try.results45, go_sem, R0, R1, hlt]) rfl ⟨rfl, by repeat with_reducible first | exact hg.out | apply GrewS.drewN | apply GrewS.drew | apply GrewS.alloc | (refine GrewS.setCell ?_ (by first | (simp; done) | (simp; omega)) _)⟩
end Go.Proofs.Ytjffikiebeneaaa
