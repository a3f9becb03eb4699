/-
  The law on fair plans.
-/
import Derived.Test.YticgdfbknaholaaFv27
namespace Go.Proofs.Yticgdfbknaholaa
open Go.RowKit

theorem mask_all {N : Nat} (h1 : 1 ≤ N) (h8 : N ≤ 8) : ∃ e : Int, IntKind.u64.wrap (IntKind.u64.wrap (2 ^ N) - 1) = e ∧ 0 ≤ e ∧ e ≤ 18446744073709551615 ∧ (∀ c : Nat, c < N → hasB e (c : Int) = true) ∧ e / 2 ^ N = 0 := by
  have : N = 1 ∨ N = 2 ∨ N = 3 ∨ N = 4 ∨ N = 5 ∨ N = 6 ∨ N = 7 ∨ N = 8 := by omega
  have key : ∀ c : Nat, c < N → c = 0 ∨ c = 1 ∨ c = 2 ∨ c = 3 ∨ c = 4 ∨ c = 5 ∨ c = 6 ∨ c = 7 := fun c hc => by omega
  rcases this with rfl | rfl | rfl | rfl | rfl | rfl | rfl | rfl
  all_goals
    refine ⟨_, rfl, by decide, by decide, fun c hc => ?_, by decide⟩
    rcases key c hc with rfl | rfl | rfl | rfl | rfl | rfl | rfl | rfl <;> first | decide | omega
/-- The state of the loop that makes the scene. -/
structure FS (W : World) (bS bU : Nat) (w : World) (v : Value) (N : Nat) (ts : List Tk) : Prop where
  s : C3 w bS (.int .i64 (N : Int)) v (.slice (some ⟨bU, 0, none⟩) N N)
  fs : Fz w bS
  ty : Ty w bS 30
  cu : Row w bU N (fun _ => .int .i64 0)
  tu : Ty w bU 3
  row : w.ownsRow W.heap.size 43 8 v ts.length (flatT ts)
  kp : Kp W.heap.size W w
theorem Row.kx {w w' : World} {b k n1 n2 : Nat} {f : Nat → Value} (h : Row w b k f) (g : Kx n1 n2 0 0 w w') (hb : b < n1 ∨ n2 ≤ b) : Row w' b k f :=
  ⟨fun i hi => (g.cell (p := ⟨b, i, none⟩) h.lt hb (Or.inr (Nat.zero_le _))).trans (h.cells i hi), Nat.lt_of_lt_of_le h.lt g.size, fun o => (g.frozen (p := ⟨b, o, none⟩) h.lt hb (Or.inr (Nat.zero_le _))).trans (h.fz o)⟩
section
variable {W w w' : World} {bS bU N : Nat} {v v' : Value} {ts : List Tk}
theorem FS.kps (h : FS W bS bU w v N ts) (k : Kp w.heap.size w w') : FS W bS bU w' v N ts :=
  ⟨h.s.kp k, h.fs.kp k, h.ty.kp k, h.cu.kp k, h.tu.kp k, own_kp h.row k, h.kp.trans (k.mono h.kp.size)⟩
theorem FS.grow {t : Tk} (h : FS W bS bU w v N ts) (hw : W.heap.size ≤ bS) (g : w.grownBy w' v.ownBlock) (hrow : w'.ownsRow W.heap.size 43 8 v' (ts.length + 1) (flatT ts ++ flatT [t])) :
    C3 w' bS (.int .i64 (N : Int)) v (.slice (some ⟨bU, 0, none⟩) N N) ∧ Fz w' bS ∧ FS W bS bU (w'.setCell ⟨bS, 1, none⟩ v') v' N (ts ++ [t]) := by
  obtain ⟨n1, n2, k, hn, hb⟩ := own_kxG h.row g
  have cS := hb bS (own_tyG h.row h.ty (by decide))
  have cU := hb bU (own_tyG h.row h.tu (by decide))
  have z : ∀ b : Nat, b < 0 ∨ 0 ≤ b := fun b => Or.inr (Nat.zero_le _)
  have s1 := h.s.kx k cS (z _)
  have f1 := h.fs.kx k cS
  have ty1 := h.ty.kx k cS (z _)
  have cu1 := h.cu.kx k cU
  have tu1 := h.tu.kx k cU (z _)
  have kp1 := h.kp.trans (k.kp h.kp.size (Or.inr hn) (Or.inl (Nat.le_refl _)))
  have k2 : Kx bS (bS + 1) 0 0 w' (w'.setCell ⟨bS, 1, none⟩ v') := (Kx.refl _ _ _ _ w').setIn (p := ⟨bS, 1, none⟩) (Nat.le_refl _) (Nat.lt_succ_self _) _
  have ne : ∀ b, b ≠ bS → b < bS ∨ bS + 1 ≤ b := fun b h => by omega
  have hUS : bU ≠ bS := fun e => by
    obtain ⟨c, f, h1⟩ := h.tu
    obtain ⟨c', f', h2⟩ := h.ty
    rw [e, h2] at h1
    cases h1
  refine ⟨s1, f1, s1.set1 _, f1.set _ _, ty1.set _ _, cu1.kx k2 (ne _ hUS), tu1.kx k2 (ne _ hUS) (z _), ?_, kp1.trans (k2.kp kp1.size (Or.inr hw) (Or.inl (Nat.le_refl _)))⟩
  rw [List.length_append, flatT_app]
  exact own_far hrow k2 (fun b hb2 => ne b (fun e => own_tyG hrow ty1 (by decide) (by rw [hb2, e])))
end
set_option maxRecDepth 100000 in
set_option maxHeartbeats 4000000 in
theorem law4 {W : World} {a we : Int} {A : Option Addr} {la ca : Nat} {zs : List Int} (a0 : 0 ≤ a) (a1 : a ≤ 255) (e0 : 0 ≤ we) (e1 : we ≤ 65535) (hzl : zs.length = la) (hlc : la ≤ ca) (hcm : (ca : Int) ≤ 9223372036854775807) (hz : IsInts W .u8 A la zs) (hzr : ∀ z ∈ zs, 0 ≤ z ∧ z ≤ 255) :
    Calls Try.prog 4 #[.int .u8 a, .int .u16 we, .slice A la ca] W fun e w' => e = .returned (.bool true) ∧ Kp W.heap.size W w' := by
  have HAw := fun w => Lib.hid (awake_any w)
  have HZ := Lib.hid hz
  have HZR := Lib.hid hzr
  have HZL := Lib.hid hzl
  obtain ⟨q, hq⟩ : ∃ q, q = min la 40 := ⟨_, rfl⟩
  have HQL := Lib.hid (show (la < 40 ∧ q = la) ∨ (40 ≤ la ∧ q = 40) by omega)
  have hq1 : q ≤ 40 := by omega
  have hq2 : q ≤ la := by omega
  obtain ⟨N, hN⟩ : ∃ N : Nat, 1 + a % 8 = (N : Int) := ⟨(1 + a % 8).toNat, by omega⟩
  have hN1 : 1 ≤ N := by omega
  have hN8 : N ≤ 8 := by omega
  have hmk := fun w => make_ints w N (by omega)
  have HN := Lib.hid hN
  clear hz hzr hzl hq hN
  go_enter Try.func4, Try.ntmps4
  go_wp2_with fail
  (with_reducible refine (HAw _).out.mono ?_)
  rintro e w1 ⟨rfl, hk⟩
  have K1 := Lib.hid hk
  clear hk HAw
  go_upto_region 4 with fail
  rw [HN.out]
  have kk : Kp w1.heap.size w1 (w1.alloc (.cells #[.int .i64 (N : Int), .slice none 0 0, .slice none 0 0] 30)) := (Kp.refl _ _).alloc (Nat.le_refl _) _
  have HS := Lib.hid (C3.new w1 (.int .i64 (N : Int)) (.slice none 0 0) (.slice none 0 0) 30)
  have HSF := Lib.hid (Fz.new w1 #[.int .i64 (N : Int), .slice none 0 0, .slice none 0 0] 30)
  have HST := Lib.hid (Ty.new w1 #[.int .i64 (N : Int), .slice none 0 0, .slice none 0 0] 30)
  have K2 := Lib.hid (K1.out.trans (kk.mono K1.out.size))
  obtain ⟨bS, hbS⟩ : ∃ b, b = w1.heap.size := ⟨_, rfl⟩
  have WS : W.heap.size ≤ bS := by have := K1.out.size; omega
  rw [← hbS] at HS HSF HST
  rw [← hbS]
  clear kk K1 hbS
  generalize w1.alloc _ = w2 at *
  -- who runs: nobody
  have kk : Kp w2.heap.size w2 (w2.alloc (.cells (madeCells (Value.int .i64 0).cells N) 3)) := (Kp.refl _ _).alloc (Nat.le_refl _) _
  have hrow := Row.made w2 (.int .i64 0) rfl N 3
  have hbU : w2.heap.size ≠ bS := by have := HS.out.lt; omega
  have hFS : FS W bS w2.heap.size ((w2.alloc (.cells (madeCells (Value.int .i64 0).cells N) 3)).setCell ⟨bS, 2, none⟩ (.slice (some ⟨w2.heap.size, 0, none⟩) N N)) (.slice none 0 0) N [] :=
    ⟨(HS.out.kp kk).set2 _, (HSF.out.kp kk).set _ _, (HST.out.kp kk).set _ _, hrow.far (p := ⟨bS, 2, none⟩) hbU.symm _, (Ty.new w2 _ 3).set _ _, World.ownsRow_nil _ _ _ _, (K2.out.trans (kk.mono K2.out.size)).setCell (p := ⟨bS, 2, none⟩) WS _⟩
  rw [World.setCell_alloc_past _ bS 2 _ HS.out.lt] at hFS
  have HFS := Lib.hid hFS
  simp only [Value.cells] at HFS
  obtain ⟨x0, x1, x2, xl⟩ := HS.out
  have xf := HSF.out.2
  clear kk hrow hbU hFS HS HSF HST K2
  go_upto_region 5 with fail
  clear x0 x1 x2 xl xf hmk
  generalize w2.heap.size = bU at *
  generalize World.alloc _ _ = w3 at *
  go_cut [30, 31, 32] from 26 to 32 (fun s l i w' => s = .slice A q ca ∧ l = .int .i64 q ∧ i = .int .i64 0 ∧ w3 = w')
  case first =>
    rcases HQL.out with ⟨h1, rfl⟩ | ⟨h1, rfl⟩
    · have h2 : (q : Int) < 40 := by omega
      go_wp2_with fail
      all_goals
        go_meet
        case rel => exact ⟨by first | rfl | (congr 1; omega), by first | rfl | (congr 1; omega), rfl, rfl⟩
    · have h2 : (40 : Int) ≤ la := by omega
      have h3 : 40 ≤ ca := by omega
      go_wp2_with fail
      all_goals
        go_meet
        case rel => exact ⟨by first | rfl | (congr 1; omega), by first | rfl | (congr 1; omega), rfl, rfl⟩
  case rest =>
  obtain ⟨rfl, rfl, rfl, rfl⟩ := hcut
  obtain ⟨M, hM, M0, M1, MH, MZ⟩ := mask_all hN1 hN8
  have HM := Lib.hid hM
  have HMH := Lib.hid (And.intro MH MZ)
  clear hM MH MZ
  go_wp2_with fail
  go_loopw [32] (fun i wr => ∃ (j : Nat) (ts : List Tk) (v : Value), j ≤ q ∧ i = .int .i64 (j : Int) ∧ ts.length = j ∧ lastI 0 ts = j ∧ rightsT N 0 ts = true ∧ (∀ t ∈ ts, t.ok ∧ t.rdy = true ∧ t.wt = 1 + we ∧ t.mask = M) ∧ FS W bS bU wr v N ts) (fun i _ => q - (intOf i).toNat)
  case atStart => exact ⟨0, [], _, Nat.zero_le _, rfl, rfl, rfl, rfl, (fun t h => by cases h), HFS.out⟩
  case round =>
    clear HFS
    obtain ⟨j, ts, v, hj, rfl, hl, hli, hrt, hall, hfs⟩ := hrel
    have HL := Lib.hid hl
    have HLI := Lib.hid hli
    have HRT := Lib.hid hrt
    have HALL := Lib.hid hall
    have HFS := Lib.hid hfs
    clear hl hli hrt hall hfs
    by_cases hlt : j < q
    · have hji : (j : Int) < (q : Int) := by omega
      have hju : (j : Int) < (la : Int) := by omega
      obtain ⟨bz, oz, rfl, hbz, cz⟩ := (HZ.out.below HFS.out.kp) j (by omega)
      have hzr := HZR.out (zs.getD j 0) (by rw [List.getD_eq_getElem?_getD, List.getElem?_eq_getElem (by rw [HZL.out]; omega)]; exact List.getElem_mem _)
      generalize zs.getD j 0 = z at *
      obtain ⟨z0, z1⟩ := hzr
      obtain ⟨r, hr⟩ : ∃ r, r = z % (N : Int) := ⟨_, rfl⟩
      have r0 : 0 ≤ r := by rw [hr]; exact Int.emod_nonneg _ (by omega)
      have r1 : r < (N : Int) := by rw [hr]; exact Int.emod_lt_of_pos _ (by omega)
      have r2 : Int.tmod z (N : Int) = r := by rw [Int.tmod_eq_emod_of_nonneg z0, hr]
      have r3 : z % (N : Int) = r := hr.symm
      have hN0 : (N : Int) ≠ 0 := by omega
      have hN00 : ((N : Int) == 0) = false := beq_eq_false_iff_ne.2 hN0
      have hN64 : (N : Int) < 64 := by omega
      obtain ⟨R, rfl⟩ : ∃ R : Nat, r = (R : Int) := ⟨r.toNat, by omega⟩
      have hNn : ¬ N = 0 := by omega
      have wr' : ∀ x : Int, 0 ≤ x → x ≤ 100000 → IntKind.i64.wrap x = x := fun x h1 h2 => by
        unfold IntKind.wrap
        simp [IntKind.bits, IntKind.signed]
        omega
      have hw1 := wr' z z0 (by omega)
      have hw2 := wr' (1 + (j : Int)) (by omega) (by omega)
      have hw3 := wr' we (by omega) (by omega)
      have hw4 := wr' (1 + we) (by omega) (by omega)
      clear hr wr'
      go_upto_region 8 with fail
      clear cz
      refine wp_region_noPanic ?_
      refine wp_region_anyN (fun w' => w'.cell? ⟨bS, 0, none⟩ = some (.int .i64 (N : Int)) ∧ w'.cell? ⟨bS, 1, none⟩ = some v) 20 (by kernel_rfl) ?_
      have HFD := Lib.hid (HFS.out.kps ((Kp.refl _ wr).drewN 1))
      have HFD2 := Lib.hid (show FS W bS bU wr.drew v N ts from HFD.out)
      clear HFS HFD
      generalize wr.drew = w0 at *
      have hS : w0.cell? ⟨bS, 0, none⟩ = some (.int .i64 (N : Int)) ∧ w0.cell? ⟨bS, 1, none⟩ = some v := ⟨HFD2.out.s.c0, HFD2.out.s.c1⟩
      have xl := HFD2.out.s.lt
      refine anyN_takeR 0 (v := ?_) rfl (by kernel_rfl) (by kernel_rfl) (by kernel_rfl) (by kernel_rfl) (fun _ _ _ h => h) (Or.inl ⟨by rfl, ?_⟩) hS ?_
      rotate_left
      · intro w hSw
        obtain ⟨_, _⟩ := hSw
        go_simp
        try with_reducible rfl
      simp only [Act.put, List.setIfInBounds_toArray, List.set_cons_zero, List.set_cons_succ]
      refine anyN_takeR 1 (v := ?_) rfl (by kernel_rfl) (by kernel_rfl) (by kernel_rfl) (by kernel_rfl) (fun _ _ _ h => h) (Or.inl ⟨by rfl, ?_⟩) hS ?_
      rotate_left
      · intro w hSw
        obtain ⟨_, _⟩ := hSw
        go_simp
        try with_reducible rfl
      simp only [Act.put, List.setIfInBounds_toArray, List.set_cons_zero, List.set_cons_succ]
      refine anyN_takeR 2 (v := ?_) rfl (by kernel_rfl) (by kernel_rfl) (by kernel_rfl) (by kernel_rfl) (fun _ _ _ h => h) (Or.inl ⟨by rfl, ?_⟩) hS ?_
      rotate_left
      · intro w hSw
        obtain ⟨_, _⟩ := hSw
        go_simp
        try with_reducible rfl
      simp only [Act.put, List.setIfInBounds_toArray, List.set_cons_zero, List.set_cons_succ]
      refine anyN_takeR 3 (v := ?_) rfl (by kernel_rfl) (by kernel_rfl) (by kernel_rfl) (by kernel_rfl) (fun _ _ _ h => h) (Or.inl ⟨by rfl, ?_⟩) hS ?_
      rotate_left
      · intro w hSw
        obtain ⟨_, _⟩ := hSw
        go_simp
        try with_reducible rfl
      simp only [Act.put, List.setIfInBounds_toArray, List.set_cons_zero, List.set_cons_succ]
      refine anyN_takeR 4 (v := ?_) rfl (by kernel_rfl) (by kernel_rfl) (by kernel_rfl) (by kernel_rfl) (fun _ _ _ h => h) (Or.inl ⟨by rfl, ?_⟩) hS ?_
      rotate_left
      · intro w hSw
        obtain ⟨_, _⟩ := hSw
        go_simp
        try with_reducible rfl
      simp only [Act.put, List.setIfInBounds_toArray, List.set_cons_zero, List.set_cons_succ]
      refine anyN_takeR 5 (v := ?_) rfl (by kernel_rfl) (by kernel_rfl) (by kernel_rfl) (by kernel_rfl) (fun _ _ _ h => h) (Or.inl ⟨by rfl, ?_⟩) hS ?_
      rotate_left
      · intro w hSw
        obtain ⟨_, _⟩ := hSw
        go_simp
        try with_reducible rfl
      simp only [Act.put, List.setIfInBounds_toArray, List.set_cons_zero, List.set_cons_succ]
      refine anyN_takeR 6 (v := ?_) rfl (by kernel_rfl) (by kernel_rfl) (by kernel_rfl) (by kernel_rfl) (fun _ _ _ h => h) (Or.inl ⟨by rfl, ?_⟩) hS ?_
      rotate_left
      · intro w hSw
        obtain ⟨_, _⟩ := hSw
        go_simp
        try with_reducible rfl
      simp only [Act.put, List.setIfInBounds_toArray, List.set_cons_zero, List.set_cons_succ]
      refine anyN_takeR 7 (v := ?_) rfl (by kernel_rfl) (by kernel_rfl) (by kernel_rfl) (by kernel_rfl) (fun _ _ _ h => h) (Or.inl ⟨by rfl, ?_⟩) hS ?_
      rotate_left
      · intro w hSw
        obtain ⟨_, _⟩ := hSw
        go_simp
        try with_reducible rfl
      simp only [Act.put, List.setIfInBounds_toArray, List.set_cons_zero, List.set_cons_succ]
      refine anyN_takeR 8 (v := ?_) rfl (by kernel_rfl) (by kernel_rfl) (by kernel_rfl) (by kernel_rfl) (fun _ _ _ h => h) (Or.inl ⟨by rfl, ?_⟩) hS ?_
      rotate_left
      · intro w hSw
        obtain ⟨_, _⟩ := hSw
        go_simp
        try with_reducible rfl
      simp only [Act.put, List.setIfInBounds_toArray, List.set_cons_zero, List.set_cons_succ]
      refine anyN_takeR 9 (v := ?_) rfl (by kernel_rfl) (by kernel_rfl) (by kernel_rfl) (by kernel_rfl) (fun _ _ _ h => h) (Or.inl ⟨by rfl, ?_⟩) hS ?_
      rotate_left
      · intro w hSw
        obtain ⟨_, _⟩ := hSw
        go_simp
        try with_reducible rfl
      simp only [Act.put, List.setIfInBounds_toArray, List.set_cons_zero, List.set_cons_succ]
      refine anyN_takeR 10 (v := ?_) rfl (by kernel_rfl) (by kernel_rfl) (by kernel_rfl) (by kernel_rfl) (fun _ _ _ h => h) (Or.inl ⟨by rfl, ?_⟩) hS ?_
      rotate_left
      · intro w hSw
        obtain ⟨_, _⟩ := hSw
        go_simp
        try with_reducible rfl
      simp only [Act.put, List.setIfInBounds_toArray, List.set_cons_zero, List.set_cons_succ]
      refine anyN_takeR 11 (v := ?_) rfl (by kernel_rfl) (by kernel_rfl) (by kernel_rfl) (by kernel_rfl) (fun _ _ _ h => h) (Or.inl ⟨by rfl, ?_⟩) hS ?_
      rotate_left
      · intro w hSw
        obtain ⟨_, _⟩ := hSw
        go_simp
        try with_reducible rfl
      simp only [Act.put, List.setIfInBounds_toArray, List.set_cons_zero, List.set_cons_succ]
      refine anyN_takeR 12 (v := ?_) rfl (by kernel_rfl) (by kernel_rfl) (by kernel_rfl) (by kernel_rfl) (fun _ _ _ h => h) (Or.inl ⟨by rfl, ?_⟩) hS ?_
      rotate_left
      · intro w hSw
        obtain ⟨_, _⟩ := hSw
        go_simp
        try with_reducible rfl
      simp only [Act.put, List.setIfInBounds_toArray, List.set_cons_zero, List.set_cons_succ]
      refine anyN_takeR 13 (v := ?_) rfl (by kernel_rfl) (by kernel_rfl) (by kernel_rfl) (by kernel_rfl) (fun _ _ _ h => h) (Or.inl ⟨by rfl, ?_⟩) hS ?_
      rotate_left
      · intro w hSw
        obtain ⟨_, _⟩ := hSw
        go_simp
        try with_reducible rfl
      simp only [Act.put, List.setIfInBounds_toArray, List.set_cons_zero, List.set_cons_succ]
      refine anyN_takeR 14 (v := ?_) rfl (by kernel_rfl) (by kernel_rfl) (by kernel_rfl) (by kernel_rfl) (fun _ _ _ h => h) (Or.inl ⟨by rfl, ?_⟩) hS ?_
      rotate_left
      · intro w hSw
        obtain ⟨_, _⟩ := hSw
        go_simp
        try with_reducible rfl
      simp only [Act.put, List.setIfInBounds_toArray, List.set_cons_zero, List.set_cons_succ]
      refine anyN_takeR 15 (v := ?_) rfl (by kernel_rfl) (by kernel_rfl) (by kernel_rfl) (by kernel_rfl) (fun _ _ _ h => h) (Or.inl ⟨by rfl, ?_⟩) hS ?_
      rotate_left
      · intro w hSw
        obtain ⟨_, _⟩ := hSw
        go_simp
        try with_reducible rfl
      simp only [Act.put, List.setIfInBounds_toArray, List.set_cons_zero, List.set_cons_succ]
      refine anyN_takeR 16 (v := ?_) rfl (by kernel_rfl) (by kernel_rfl) (by kernel_rfl) (by kernel_rfl) (fun _ _ _ h => h) (Or.inl ⟨by rfl, ?_⟩) hS ?_
      rotate_left
      · intro w hSw
        obtain ⟨_, _⟩ := hSw
        go_simp
        try with_reducible rfl
      simp only [Act.put, List.setIfInBounds_toArray, List.set_cons_zero, List.set_cons_succ]
      refine anyN_one 17 rfl (by kernel_rfl) rfl ?_
      go_simp
      rw [HM.out]
      have HM3 := Lib.hid (HFD2.out.kps ((Kp.refl _ w0).alloc (Nat.le_refl _) (.cells (tkc ⟨1 + (j : Int), 0, 1 + we, (R : Int), M, true, 0, 0⟩) 43)))
      dsimp only [tkc] at HM3
      obtain ⟨i0, hi0, hz0, hz1, hz2⟩ := info_parts tk_info
      refine anyN_one 18 rfl (by kernel_rfl) rfl ?_
      refine wp_append_rd _ (.tmp 38) (.tmp 54) 27 rfl W.heap.size 43 i0 (tkv t0) 8 64 Try.underlying27 hi0 hz0 hz1 hz2 rfl (by decide) v j (flatT ts) rfl (by have h := HM3.out.row; rw [HL.out] at h; exact h) (some ⟨w0.heap.size, 0, none⟩) 1 1 (flatT [⟨1 + (j : Int), 0, 1 + we, (R : Int), M, true, 0, 0⟩]) rfl (rd_new w0 _ 43 8 1 rfl) (oneCellsT [⟨1 + (j : Int), 0, 1 + we, (R : Int), M, true, 0, 0⟩]) (by unfold maxLen; omega) (by omega) (by have := HM3.out.kp.size; exact this) ?_
      intro v9 w9 hown9 hgrow9
      obtain ⟨A9, c9, rfl, -⟩ := own_form hown9
      obtain ⟨hs9, hf9, hm9⟩ := HM3.out.grow (t := ⟨1 + (j : Int), 0, 1 + we, (R : Int), M, true, 0, 0⟩) WS hgrow9 (by rw [HL.out]; exact hown9)
      have HM9 := Lib.hid hm9
      have hS9 : w9.cell? ⟨bS, 0, none⟩ = some (.int .i64 (N : Int)) ∧ w9.cell? ⟨bS, 1, none⟩ = some v := ⟨hs9.c0, hs9.c1⟩
      clear hm9 hgrow9 hown9 hi0 hz0 hz1 hz2 hS xl
      refine ⟨fun _ => hS9, ?_⟩
      simp only [Act.put, List.setIfInBounds_toArray, List.set_cons_zero, List.set_cons_succ]
      refine anyN_takeR 19 (v := ?_) rfl (by kernel_rfl) (by kernel_rfl) (by kernel_rfl) (by kernel_rfl) (fun _ _ _ h => h) (Or.inl ⟨by rfl, ?_⟩) hS9 ?_
      rotate_left
      · intro w hSw
        obtain ⟨_, _⟩ := hSw
        go_simp
        try with_reducible rfl
      simp only [Act.put, List.setIfInBounds_toArray, List.set_cons_zero, List.set_cons_succ]
      refine anyN_one 20 rfl (by kernel_rfl) rfl ?_
      have xl := hs9.lt
      have xf := hf9.2
      have y1 := hs9.c1
      go_simp
      refine anyN_done (by kernel_rfl) ?_
      refine NoPanic.normal ?_
      clear hS9 hs9 hf9 xl xf y1
      generalize w9.setCell _ _ = w10 at *
      go_wp2_with fail
      go_roundw
      case rel =>
        refine ⟨j + 1, ts ++ [⟨1 + (j : Int), 0, 1 + we, (R : Int), M, true, 0, 0⟩], _, by omega, by go_num, by rw [List.length_append, HL.out]; rfl, by rw [lastI_snoc]; dsimp only; omega, rightsT_snoc HRT.out ?_, fun t ht => ?_, HM9.out⟩
        · rw [HLI.out]
          unfold rightT
          simp only [Bool.and_eq_true, decide_eq_true_eq, Bool.or_eq_true, beq_iff_eq]
          exact ⟨⟨⟨⟨⟨⟨⟨by omega, by omega⟩, by omega⟩, by omega⟩, r0⟩, r1⟩, HMH.out.1 R (by omega)⟩, Or.inr (by rw [Int.toNat_natCast]; exact HMH.out.2)⟩
        · rcases List.mem_append.1 ht with h1 | h1
          · exact HALL.out t h1
          · rw [List.mem_singleton] at h1
            subst h1
            exact ⟨⟨by dsimp only; omega, by dsimp only; omega, by dsimp only; omega, by dsimp only; omega, by dsimp only; omega, by dsimp only; omega, M0, M1⟩, rfl, rfl, rfl⟩
      case measure => simp [intOf]; omega
    · have hje : j = q := by omega
      subst hje
      have hjn : ¬ ((j : Int) < (j : Int)) := by omega
      clear hlt
      obtain ⟨Av, cv, rfl, ho, hrd⟩ := own_sl HFS.out.row
      have htk := hrd.tks (es := ts) rfl
      rw [HL.out] at htk ho
      have hcu := HFS.out.cu.ints (f := fun _ => 0) (zs := List.replicate N 0) (fun i hi => by simp [List.getD_eq_getElem?_getD, hi])
      have hz0 : ∀ c, (List.replicate N (0 : Int)).getD c 0 = 0 := fun c => by
        rw [List.getD_eq_getElem?_getD, List.getElem?_replicate]
        split <;> rfl
      have hsc : ScAt wr Av j (some ⟨bU, 0, none⟩) N ⟨(N : Int), ts, List.replicate N 0⟩ := ⟨HL.out, by simp, htk, hcu, fun t ht => (HALL.out t ht).1, by omega, by omega⟩
      have hfit : Sc.fit ⟨(N : Int), ts, List.replicate N 0⟩ := ⟨by dsimp only; omega, by dsimp only; omega, by simp, HRT.out, fun c _ => Or.inl (hz0 c)⟩
      have hev : Even ⟨(N : Int), ts, List.replicate N 0⟩ N (1 + we) := ⟨hfit, rfl, by omega, hz0, fun t ht => by
        obtain ⟨_, g1, g2, g3⟩ := HALL.out t ht
        exact ⟨g1, g2, by rw [g3]; exact HMH.out.1⟩⟩
      obtain ⟨s', ms, hpl, hml, hfit', hn', hnear⟩ := even_plan hev (by dsimp only; rw [HL.out]; exact hq1)
      have HP0 := plan_any wr (ca := cv) (cb := N) (most := 65536) hsc ho.nil (fun h => by cases h) (by decide)
      rw [hpl] at HP0
      have HP := Lib.hid HP0
      have HFT := Lib.hid hfit'
      have HN' := Lib.hid hn'
      have HNEAR := Lib.hid hnear
      have HFS2 := Lib.hid (show FS W bS bU wr (.slice Av j cv) N ts by have h := HFS.out; rw [HL.out] at h; exact h)
      clear htk hcu hz0 hsc hfit hev hpl hml hfit' hn' hnear HP0 ho hrd HFS HZ HZR
      rw [HL.out] at *
      obtain ⟨x0, x1, x2, xl⟩ := HFS2.out.s
      go_wp2_with fail
      (with_reducible refine HP.out.mono ?_)
      clear x0 x1 x2 xl HP
      rintro e w5 ⟨v5, vs5, rfl, -, hsc5, hk⟩
      obtain ⟨A5, ca5, B5, cb5, rfl, hs5, -, -, -⟩ := hsc5.ex
      dsimp only at hs5
      have kk : Kp w5.heap.size w5 (w5.alloc (.cells #[.int .i64 s'.n, .slice A5 s'.ts.length ca5, .slice B5 s'.cur.length cb5] 30)) := (Kp.refl _ _).alloc (Nat.le_refl _) _
      have HE := Lib.hid (C3.new w5 (.int .i64 s'.n) (.slice A5 s'.ts.length ca5) (.slice B5 s'.cur.length cb5) 30)
      have HSC5 := Lib.hid (hs5.kp kk)
      have HS5 := Lib.hid ((HFS2.out.s.kp hk).kp kk)
      have K5 := Lib.hid ((HFS2.out.kp.trans (hk.mono HFS2.out.kp.size)).trans (kk.mono (Nat.le_trans HFS2.out.kp.size hk.size)))
      clear kk hk hsc5 hs5 HFS2
      go_upto_region 11 with fail
      obtain ⟨bE, hbE⟩ : ∃ b, b = w5.heap.size := ⟨_, rfl⟩
      rw [← hbE] at HE
      rw [← hbE]
      clear hbE
      generalize w5.alloc _ = w6 at *
      have hcl' : s'.cur.length = N := by have h1 := HFT.out.cur; have h2 := HN'.out; omega
      have HL0 := loadsF_any w6 (ca := ca5) (cb := cb5) HSC5.out ((rightS_iff _).2 HFT.out)
      rw [hcl'] at HL0 HE HSC5
      rw [hcl']
      have HLF := Lib.hid HL0
      clear HL0 hcl'
      obtain ⟨x0, x1, x2, xl⟩ := HE.out
      go_wp2_with fail
      (with_reducible refine HLF.out.mono ?_)
      clear x0 x1 x2 xl HLF
      rintro e w7 ⟨bL, rfl, hbL, hrow, hk⟩
      have HROW := Lib.hid hrow
      have HS7 := Lib.hid (HS5.out.kp hk)
      have K7 := Lib.hid (K5.out.trans (hk.mono K5.out.size))
      have HMX := Lib.hid (max_any w7 (c := N) HROW.out (by omega) (by omega))
      have HMN := Lib.hid (min_any w7 (c := N) HROW.out (by omega) (by omega))
      have HBD := Lib.hid (show ∀ c, 0 ≤ loadV s'.ts c ∧ loadV s'.ts c ≤ 4294901760 from fun c => by
        have h1 := loadV_bd c HFT.out.each
        have h2 := HFT.out.len
        omega)
      obtain ⟨x0, x1, x2, xl⟩ := HS7.out
      clear hrow hk HS5 K5 hbL HE HSC5
      go_wp2_with fail
      (with_reducible refine HMX.out.mono ?_)
      rintro e w8 ⟨m1, rfl, ⟨i1, hi1, hm1⟩, -, rfl⟩
      have HM1 := Lib.hid hm1
      clear hm1
      go_wp2_with fail
      (with_reducible refine HMN.out.mono ?_)
      rintro e w9 ⟨m2, rfl, ⟨i2, hi2, hm2⟩, -, rfl⟩
      have b1 := HBD.out i1
      have b2 := HBD.out i2
      have hnr := HNEAR.out i1 i2 hi1 hi2
      rw [← HM1.out] at b1 hnr
      rw [← hm2] at b2 hnr
      obtain ⟨b10, b11⟩ := b1
      obtain ⟨b20, b21⟩ := b2
      have hle : m1 - m2 ≤ 1 + we := by omega
      clear hm2 hnr
      go_wp2_with fail
      go_ret
      exact ⟨rfl, K7.out⟩
end Go.Proofs.Yticgdfbknaholaa
