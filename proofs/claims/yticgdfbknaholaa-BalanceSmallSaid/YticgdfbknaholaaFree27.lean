/-
  The free tasks of a CPU that may run on another one: free, and the iterator that it makes.
-/
import Derived.Test.YticgdfbknaholaaAnyw27
import Derived.Test.YticgdfbknaholaaPlain27
namespace Go.Proofs.Yticgdfbknaholaa
open Go.RowKit
attribute [local go_sem] Oper.semAt_some

/-- Whether a task is a free one of CPU a that may run on b. -/
def freeB (s : Sc) (a b : Int) (t : Tk) : Bool := t.rdy && (t.cpu == a) && (s.cur.getD a.toNat 0 != t.id) && hasB t.mask b
def freeL (s : Sc) (a b : Int) : List Tk := s.ts.filter (freeB s a b)
theorem free_snoc {s : Sc} {a b : Int} {j : Nat} (h : j < s.ts.length) : (s.ts.take (j + 1)).filter (freeB s a b) = if freeB s a b (s.ts.getD j t0) then (s.ts.take j).filter (freeB s a b) ++ [s.ts.getD j t0] else (s.ts.take j).filter (freeB s a b) := by
  rw [take_snoc' h, List.filter_append, List.filter_cons]
  split
  · rfl
  · rw [List.filter_nil, List.append_nil]
theorem free_pre {s : Sc} {a b : Int} {j : Nat} (h : j < s.ts.length) (hp : freeB s a b (s.ts.getD j t0) = true) : ∃ rest, freeL s a b = (s.ts.take j).filter (freeB s a b) ++ s.ts.getD j t0 :: rest := by
  refine ⟨(s.ts.drop (j + 1)).filter (freeB s a b), ?_⟩
  unfold freeL
  conv => lhs; rw [← List.take_append_drop j s.ts]
  rw [List.filter_append, drop_cons' h, List.filter_cons, if_pos hp]
theorem freeFn_any (W : World) {A B : Option Addr} {la ca lb cb : Nat} {n x y : Int} :
    Calls Try.prog 31 #[.agg #[.int .i64 n, .slice A la ca, .slice B lb cb], .int .i64 x, .int .i64 y] W fun e w' => ∃ b b1 b2, e = .returned (.func (.func 52) #[] #[.pointer (some ⟨b, 0, none⟩), .pointer (some ⟨b1, 0, none⟩), .pointer (some ⟨b2, 0, none⟩)]) ∧
      C3 w' b (.int .i64 n) (.slice A la ca) (.slice B lb cb) ∧ Bx w' b1 (.int .i64 x) ∧ Bx w' b2 (.int .i64 y) ∧ (W.heap.size ≤ b ∧ W.heap.size ≤ b1 ∧ W.heap.size ≤ b2) ∧ Kp W.heap.size W w' := by
  have X := ((C3.new W (.int .i64 n) (.slice A la ca) (.slice B lb cb) 30).alloc (.cells #[.int .i64 x] 3)).alloc (.cells #[.int .i64 y] 3)
  have Y := (Bx.new (W.alloc (.cells #[.int .i64 n, .slice A la ca, .slice B lb cb] 30)) (.int .i64 x) 3).alloc (.cells #[.int .i64 y] 3)
  have Z := Bx.new ((W.alloc (.cells #[.int .i64 n, .slice A la ca, .slice B lb cb] 30)).alloc (.cells #[.int .i64 x] 3)) (.int .i64 y) 3
  have K := (((Kp.refl W.heap.size W).alloc (Nat.le_refl _) (.cells #[.int .i64 n, .slice A la ca, .slice B lb cb] 30)).alloc (by rw [World.size_alloc]; omega) (.cells #[.int .i64 x] 3)).alloc (by rw [World.size_alloc, World.size_alloc]; omega) (.cells #[.int .i64 y] 3)
  simp only [World.size_alloc] at Y Z
  go_enter Try.func31, Try.ntmps31
  go_wp2_with fail
  go_ret
  exact ⟨_, _, _, rfl, X, Y, Z, ⟨by omega, by omega, by omega⟩, K⟩
set_option maxRecDepth 100000 in
set_option maxHeartbeats 8000000 in
theorem free_iter {Wp W0 : World} {A B : Option Addr} {la ca lb cb b b1 b2 n1 n2 : Nat} {s : Sc} {x y : Int} (hs : ScAt Wp A la B lb s) (hkp : Kp Wp.heap.size Wp W0) (hp1 : Wp.heap.size ≤ n1) (q0 : n2 ≤ b) (q1 : n2 ≤ b1) (q2 : n2 ≤ b2) (hf : s.fit) (hX : C3 W0 b (.int .i64 s.n) (.slice A la ca) (.slice B lb cb)) (hx : Bx W0 b1 (.int .i64 x)) (hy : Bx W0 b2 (.int .i64 y)) (y0 : 0 ≤ y) (y1 : y ≤ 64) :
    Iter Try.prog 52 #[.pointer (some ⟨b, 0, none⟩), .pointer (some ⟨b1, 0, none⟩), .pointer (some ⟨b2, 0, none⟩)] (fun t : Tk => #[tkv t]) (freeL s x y) n1 n2 W0 := by
  intro l J Jx W hk hJ hJx hY hj
  have hn := hk.size
  have hps := hkp.size
  have HFP := fun j (h : j < s.ts.length) => Lib.hid (free_pre (s := s) (a := x) (b := y) h)
  have HFS := fun j (h : j < s.ts.length) => Lib.hid (free_snoc (s := s) (a := x) (b := y) h)
  have HFL : freeL s x y = s.ts.filter (freeB s x y) := rfl
  have HSC := Lib.hid hs
  have HX := Lib.hid hX
  have HBx := Lib.hid hx
  have HBy := Lib.hid hy
  have HK0 := Lib.hid hk
  have HKP := Lib.hid hkp
  have HE := Lib.hid hf.each
  have hcl := hf.cur
  rw [hs.hlb] at hcl
  have hn64 := hf.n64
  have hlm := hf.len
  rw [hs.hla] at hlm
  have HFB := fun t => Lib.hid (show freeB s x y t = (t.rdy && (t.cpu == x) && (s.cur.getD x.toNat 0 != t.id) && hasB t.mask y) from rfl)
  have lB := Nat.lt_of_lt_of_le hX.lt (Nat.le_refl _)
  have lB1 := hx.lt
  have lB2 := hy.lt
  generalize freeB s x y = p at *
  generalize freeL s x y = L at *
  obtain ⟨n, ts, cur⟩ := s
  dsimp only at *
  subst hcl
  have hlb64 : lb ≤ 64 := by omega
  have HJ := Lib.hid hJ
  have HYY := Lib.hid hY
  have HHL := Lib.hid HFL
  have x1 := (HX.out.kx HK0.out (Or.inr q0) (Or.inr (Nat.zero_le _))).c1
  clear hJ hY HFL hs hf hX hx hy hk hn64 hkp
  go_enter Try.func52, Try.ntmps52
  go_wp2_with fail
  clear x1
  go_loopw [10] (fun i wr => ∃ j : Nat, j ≤ la ∧ i = .int .i64 (j : Int) ∧ J ((ts.take j).filter p) wr ∧ Kx n1 n2 W0.heap.size W.heap.size W wr) (fun i _ => la - (intOf i).toNat)
  case atStart => exact ⟨0, Nat.zero_le _, rfl, hj, Kx.refl _ _ _ _ _⟩
  case round =>
    clear hj
    obtain ⟨j, hjl, rfl, hjj, hkx⟩ := hrel
    by_cases hlt : j < la
    · have hji : (j : Int) < la := by omega
      have hK := HK0.out.cut hkx (Nat.le_refl _)
      have hKP := HKP.out.trans (hK.kp hps (Or.inr hp1) (Or.inl (Nat.le_refl _)))
      have hjt : j < ts.length := by rw [HSC.out.hla]; exact hlt
      obtain ⟨bt, off, rfl, T⟩ := HSC.out.ts j hlt
      have hfit := HE.out (ts.getD j t0) (by rw [List.getD_eq_getElem?_getD, List.getElem?_eq_getElem hjt]; exact List.getElem_mem _)
      have hok := HSC.out.ok (ts.getD j t0) (by rw [List.getD_eq_getElem?_getD, List.getElem?_eq_getElem hjt]; exact List.getElem_mem _)
      have hpre := (HFP j hjt).out
      have hsn := (HFS j hjt).out
      clear HFP HFS
      replace T := T.kp hKP
      dsimp only at T
      generalize ts.getD j t0 = t at *
      have HPre := Lib.hid hpre
      have HSn := Lib.hid hsn
      have HP := HFB t
      obtain ⟨id, grp, wt, cpu, mask, rdy, v, r⟩ := t
      obtain ⟨p0, p1, _, _, p2, p3, _⟩ := hfit
      have m0 := hok.mask0
      have m1 := hok.mask1
      dsimp only at p0 p1 m0 m1 HP
      obtain ⟨q, rfl⟩ : ∃ q : Nat, cpu = (q : Int) := ⟨cpu.toNat, by omega⟩
      have hqlb : q < lb := by omega
      have HJJ := Lib.hid hjj
      have HKX := Lib.hid hkx
      have HK := Lib.hid hK
      have HKP1 := Lib.hid hKP
      obtain ⟨c0, c1, c2, c3, c4, c5, c6, c7, hbl⟩ := T
      dsimp only at c0 c1 c2 c3 c4 c5 c6 c7
      clear hpre hsn HFB hok hjj hkx hK hKP
      have hsw : W.heap.size ≤ wr.heap.size := HKX.out.size
      go_upto_region 3 with fail
      have T := TkAt.new wr ⟨id, grp, wt, (q : Int), mask, rdy, v, r⟩ 43
      have HJ2 := Lib.hid (HJ.out _ _ _ HJJ.out (((Kp.refl _ wr).alloc hsw (.cells (tkc ⟨id, grp, wt, (q : Int), mask, rdy, v, r⟩) 43)).drew))
      have HKX2 := Lib.hid (HKX.out.alloc (.cells (tkc ⟨id, grp, wt, (q : Int), mask, rdy, v, r⟩) 43)).drew
      have hpw : Wp.heap.size ≤ wr.heap.size := HKP1.out.size
      have HKP2 := Lib.hid (HKP1.out.alloc hpw (.cells (tkc ⟨id, grp, wt, (q : Int), mask, rdy, v, r⟩) 43))
      have HK2 := Lib.hid (HK.out.alloc (.cells (tkc ⟨id, grp, wt, (q : Int), mask, rdy, v, r⟩) 43))
      have hsz : W.heap.size ≤ (wr.alloc (.cells (tkc ⟨id, grp, wt, (q : Int), mask, rdy, v, r⟩) 43)).heap.size := by rw [World.size_alloc]; omega
      have HT := Lib.hid T
      obtain ⟨bT, hbT⟩ : ∃ bT, bT = wr.heap.size := ⟨_, rfl⟩
      rw [← hbT] at HT
      rw [← hbT]
      clear c0 c1 c2 c3 c4 c5 c6 c7 T HJJ HKX HK hbT hbl hsw HKP1 hpw
      dsimp only [tkc] at HJ2 HKX2 HK2 HKP2 hsz
      generalize wr.alloc _ = wA at *
      obtain ⟨c0, c1, c2, c3, c4, c5, c6, c7, hbl⟩ := HT.out
      simp only [Nat.zero_add] at c0 c1 c2 c3 c4 c5 c6 c7
      have x2 := (HX.out.kx HK2.out (Or.inr q0) (Or.inr (Nat.zero_le _))).c2
      have bx := (HBx.out.kx HK2.out (Or.inr q1) (Or.inr (Nat.zero_le _))).cell
      have by' := (HBy.out.kx HK2.out (Or.inr q2) (Or.inr (Nat.zero_le _))).cell
      cases rdy
      · skip
        refine (wpIn_wide (n := 3)).1 ?_
        refine wp_region_anyW (fun w' => w'.cell? ⟨b, 2, none⟩ = some (.slice B lb cb) ∧ w'.cell? ⟨b1, 0, none⟩ = some (.int .i64 x) ∧ w'.cell? ⟨b2, 0, none⟩ = some (.int .i64 y) ∧ w'.cell? ⟨bT, 0, none⟩ = some (.int .i64 id) ∧ w'.cell? ⟨bT, 1, none⟩ = some (.int .i64 grp) ∧ w'.cell? ⟨bT, 2, none⟩ = some (.int .i64 wt) ∧ w'.cell? ⟨bT, 3, none⟩ = some (.int .i64 (q : Int)) ∧ w'.cell? ⟨bT, 4, none⟩ = some (.int .u64 mask) ∧ w'.cell? ⟨bT, 5, none⟩ = some (.bool false) ∧ w'.cell? ⟨bT, 6, none⟩ = some (.int .u64 v) ∧ w'.cell? ⟨bT, 7, none⟩ = some (.int .u32 r)) 30 (by kernel_rfl) ?_
        have hS : wA.drew.cell? ⟨b, 2, none⟩ = some (.slice B lb cb) ∧ wA.drew.cell? ⟨b1, 0, none⟩ = some (.int .i64 x) ∧ wA.drew.cell? ⟨b2, 0, none⟩ = some (.int .i64 y) ∧ wA.drew.cell? ⟨bT, 0, none⟩ = some (.int .i64 id) ∧ wA.drew.cell? ⟨bT, 1, none⟩ = some (.int .i64 grp) ∧ wA.drew.cell? ⟨bT, 2, none⟩ = some (.int .i64 wt) ∧ wA.drew.cell? ⟨bT, 3, none⟩ = some (.int .i64 (q : Int)) ∧ wA.drew.cell? ⟨bT, 4, none⟩ = some (.int .u64 mask) ∧ wA.drew.cell? ⟨bT, 5, none⟩ = some (.bool false) ∧ wA.drew.cell? ⟨bT, 6, none⟩ = some (.int .u64 v) ∧ wA.drew.cell? ⟨bT, 7, none⟩ = some (.int .u32 r) := ⟨x2, bx, by', c0, c1, c2, c3, c4, c5, c6, c7⟩
        have HK3 := Lib.hid HK2.out.drew
        have hsz2 : W.heap.size ≤ wA.drew.heap.size := hsz
        clear x2 bx by' c0 c1 c2 c3 c4 c5 c6 c7 HK2 HKP2 hsz HT hbl
        generalize wA.drew = w0 at *
        refine anyW_take 0 (v := ?_) rfl (fun _ => trivial) (by kernel_rfl) (by kernel_rfl) (by kernel_rfl) (by kernel_rfl) (by kernel_rfl) (by kernel_rfl) (by kernel_rfl) (fun _ _ _ h => h) (Or.inl ⟨by rfl, ?_⟩) (by assumption) ?_
        rotate_left
        · intro w hSw
          obtain ⟨_, _, _, _, _, _, _, _, _, _, _⟩ := hSw
          go_simp
          try with_reducible rfl
        simp only [Act.put, List.setIfInBounds_toArray, List.set_cons_zero, List.set_cons_succ]
        refine anyW_take 1 (v := ?_) rfl (fun _ => trivial) (by kernel_rfl) (by kernel_rfl) (by kernel_rfl) (by kernel_rfl) (by kernel_rfl) (by kernel_rfl) (by kernel_rfl) (fun _ _ _ h => h) (Or.inl ⟨by rfl, ?_⟩) (by assumption) ?_
        rotate_left
        · intro w hSw
          obtain ⟨_, _, _, _, _, _, _, _, _, _, _⟩ := hSw
          go_simp
          try with_reducible rfl
        simp only [Act.put, List.setIfInBounds_toArray, List.set_cons_zero, List.set_cons_succ]
        refine anyW_take 2 (v := ?_) rfl (fun _ => trivial) (by kernel_rfl) (by kernel_rfl) (by kernel_rfl) (by kernel_rfl) (by kernel_rfl) (by kernel_rfl) (by kernel_rfl) (fun _ _ _ h => h) (Or.inl ⟨by rfl, ?_⟩) (by assumption) ?_
        rotate_left
        · intro w hSw
          obtain ⟨_, _, _, _, _, _, _, _, _, _, _⟩ := hSw
          go_simp
          try with_reducible rfl
        simp only [Act.put, List.setIfInBounds_toArray, List.set_cons_zero, List.set_cons_succ]
        refine anyW_take 3 (v := undef) rfl (fun _ => trivial) (by kernel_rfl) (by kernel_rfl) (by kernel_rfl) (by kernel_rfl) (by kernel_rfl) (by kernel_rfl) (by kernel_rfl) (fun _ _ _ h => h) (Or.inr ⟨by rfl, rfl⟩) (by assumption) ?_
        simp only [Act.put, List.setIfInBounds_toArray, List.set_cons_zero, List.set_cons_succ]
        refine anyW_take 4 (v := undef) rfl (fun _ => trivial) (by kernel_rfl) (by kernel_rfl) (by kernel_rfl) (by kernel_rfl) (by kernel_rfl) (by kernel_rfl) (by kernel_rfl) (fun _ _ _ h => h) (Or.inr ⟨by rfl, rfl⟩) (by assumption) ?_
        simp only [Act.put, List.setIfInBounds_toArray, List.set_cons_zero, List.set_cons_succ]
        refine anyW_take 5 (v := undef) rfl (fun _ => trivial) (by kernel_rfl) (by kernel_rfl) (by kernel_rfl) (by kernel_rfl) (by kernel_rfl) (by kernel_rfl) (by kernel_rfl) (fun _ _ _ h => h) (Or.inr ⟨by rfl, rfl⟩) (by assumption) ?_
        simp only [Act.put, List.setIfInBounds_toArray, List.set_cons_zero, List.set_cons_succ]
        refine anyW_take 6 (v := undef) rfl (fun _ => trivial) (by kernel_rfl) (by kernel_rfl) (by kernel_rfl) (by kernel_rfl) (by kernel_rfl) (by kernel_rfl) (by kernel_rfl) (fun _ _ _ h => h) (Or.inr ⟨by rfl, rfl⟩) (by assumption) ?_
        simp only [Act.put, List.setIfInBounds_toArray, List.set_cons_zero, List.set_cons_succ]
        refine anyW_take 7 (v := ?_) rfl (fun _ => trivial) (by kernel_rfl) (by kernel_rfl) (by kernel_rfl) (by kernel_rfl) (by kernel_rfl) (by kernel_rfl) (by kernel_rfl) (fun _ _ _ h => h) (Or.inl ⟨by rfl, ?_⟩) (by assumption) ?_
        rotate_left
        · intro w hSw
          obtain ⟨_, _, _, _, _, _, _, _, _, _, _⟩ := hSw
          go_simp
          try with_reducible rfl
        simp only [Act.put, List.setIfInBounds_toArray, List.set_cons_zero, List.set_cons_succ]
        refine anyW_take 8 (v := ?_) rfl (fun _ => trivial) (by kernel_rfl) (by kernel_rfl) (by kernel_rfl) (by kernel_rfl) (by kernel_rfl) (by kernel_rfl) (by kernel_rfl) (fun _ _ _ h => h) (Or.inl ⟨by rfl, ?_⟩) (by assumption) ?_
        rotate_left
        · intro w hSw
          obtain ⟨_, _, _, _, _, _, _, _, _, _, _⟩ := hSw
          go_simp
          try with_reducible rfl
        simp only [Act.put, List.setIfInBounds_toArray, List.set_cons_zero, List.set_cons_succ]
        refine anyW_take 9 (v := undef) rfl (fun _ => trivial) (by kernel_rfl) (by kernel_rfl) (by kernel_rfl) (by kernel_rfl) (by kernel_rfl) (by kernel_rfl) (by kernel_rfl) (fun _ _ _ h => h) (Or.inr ⟨by rfl, rfl⟩) (by assumption) ?_
        simp only [Act.put, List.setIfInBounds_toArray, List.set_cons_zero, List.set_cons_succ]
        refine anyW_take 10 (v := undef) rfl (fun _ => trivial) (by kernel_rfl) (by kernel_rfl) (by kernel_rfl) (by kernel_rfl) (by kernel_rfl) (by kernel_rfl) (by kernel_rfl) (fun _ _ _ h => h) (Or.inr ⟨by rfl, rfl⟩) (by assumption) ?_
        simp only [Act.put, List.setIfInBounds_toArray, List.set_cons_zero, List.set_cons_succ]
        refine anyW_take 11 (v := undef) rfl (fun _ => trivial) (by kernel_rfl) (by kernel_rfl) (by kernel_rfl) (by kernel_rfl) (by kernel_rfl) (by kernel_rfl) (by kernel_rfl) (fun _ _ _ h => h) (Or.inr ⟨by rfl, rfl⟩) (by assumption) ?_
        simp only [Act.put, List.setIfInBounds_toArray, List.set_cons_zero, List.set_cons_succ]
        refine anyW_take 12 (v := undef) rfl (fun _ => trivial) (by kernel_rfl) (by kernel_rfl) (by kernel_rfl) (by kernel_rfl) (by kernel_rfl) (by kernel_rfl) (by kernel_rfl) (fun _ _ _ h => h) (Or.inr ⟨by rfl, rfl⟩) (by assumption) ?_
        simp only [Act.put, List.setIfInBounds_toArray, List.set_cons_zero, List.set_cons_succ]
        refine anyW_take 13 (v := undef) rfl (fun _ => trivial) (by kernel_rfl) (by kernel_rfl) (by kernel_rfl) (by kernel_rfl) (by kernel_rfl) (by kernel_rfl) (by kernel_rfl) (fun _ _ _ h => h) (Or.inr ⟨by rfl, rfl⟩) (by assumption) ?_
        simp only [Act.put, List.setIfInBounds_toArray, List.set_cons_zero, List.set_cons_succ]
        refine anyW_take 14 (v := undef) rfl (fun _ => trivial) (by kernel_rfl) (by kernel_rfl) (by kernel_rfl) (by kernel_rfl) (by kernel_rfl) (by kernel_rfl) (by kernel_rfl) (fun _ _ _ h => h) (Or.inr ⟨by rfl, rfl⟩) (by assumption) ?_
        simp only [Act.put, List.setIfInBounds_toArray, List.set_cons_zero, List.set_cons_succ]
        refine anyW_take 15 (v := undef) rfl (fun _ => trivial) (by kernel_rfl) (by kernel_rfl) (by kernel_rfl) (by kernel_rfl) (by kernel_rfl) (by kernel_rfl) (by kernel_rfl) (fun _ _ _ h => h) (Or.inr ⟨by rfl, rfl⟩) (by assumption) ?_
        simp only [Act.put, List.setIfInBounds_toArray, List.set_cons_zero, List.set_cons_succ]
        refine anyW_take 16 (v := undef) rfl (fun _ => trivial) (by kernel_rfl) (by kernel_rfl) (by kernel_rfl) (by kernel_rfl) (by kernel_rfl) (by kernel_rfl) (by kernel_rfl) (fun _ _ _ h => h) (Or.inr ⟨by rfl, rfl⟩) (by assumption) ?_
        simp only [Act.put, List.setIfInBounds_toArray, List.set_cons_zero, List.set_cons_succ]
        refine anyW_take 17 (v := ?_) rfl (fun _ => trivial) (by kernel_rfl) (by kernel_rfl) (by kernel_rfl) (by kernel_rfl) (by kernel_rfl) (by kernel_rfl) (by kernel_rfl) (fun _ _ _ h => h) (Or.inl ⟨by rfl, ?_⟩) (by assumption) ?_
        rotate_left
        · intro w hSw
          obtain ⟨_, _, _, _, _, _, _, _, _, _, _⟩ := hSw
          go_simp
          try with_reducible rfl
        simp only [Act.put, List.setIfInBounds_toArray, List.set_cons_zero, List.set_cons_succ]
        refine anyW_take 18 (v := ?_) rfl (fun _ => trivial) (by kernel_rfl) (by kernel_rfl) (by kernel_rfl) (by kernel_rfl) (by kernel_rfl) (by kernel_rfl) (by kernel_rfl) (fun _ _ _ h => h) (Or.inl ⟨by rfl, ?_⟩) (by assumption) ?_
        rotate_left
        · intro w hSw
          obtain ⟨_, _, _, _, _, _, _, _, _, _, _⟩ := hSw
          go_simp
          try with_reducible rfl
        simp only [Act.put, List.setIfInBounds_toArray, List.set_cons_zero, List.set_cons_succ]
        refine anyW_take 19 (v := undef) rfl (fun _ => trivial) (by kernel_rfl) (by kernel_rfl) (by kernel_rfl) (by kernel_rfl) (by kernel_rfl) (by kernel_rfl) (by kernel_rfl) (fun _ _ _ h => h) (Or.inr ⟨by rfl, rfl⟩) (by assumption) ?_
        simp only [Act.put, List.setIfInBounds_toArray, List.set_cons_zero, List.set_cons_succ]
        refine anyW_take 20 (v := undef) rfl (fun _ => trivial) (by kernel_rfl) (by kernel_rfl) (by kernel_rfl) (by kernel_rfl) (by kernel_rfl) (by kernel_rfl) (by kernel_rfl) (fun _ _ _ h => h) (Or.inr ⟨by rfl, rfl⟩) (by assumption) ?_
        simp only [Act.put, List.setIfInBounds_toArray, List.set_cons_zero, List.set_cons_succ]
        refine anyW_take 21 (v := undef) rfl (fun _ => trivial) (by kernel_rfl) (by kernel_rfl) (by kernel_rfl) (by kernel_rfl) (by kernel_rfl) (by kernel_rfl) (by kernel_rfl) (fun _ _ _ h => h) (Or.inr ⟨by rfl, rfl⟩) (by assumption) ?_
        simp only [Act.put, List.setIfInBounds_toArray, List.set_cons_zero, List.set_cons_succ]
        refine anyW_take 22 (v := undef) rfl (fun _ => trivial) (by kernel_rfl) (by kernel_rfl) (by kernel_rfl) (by kernel_rfl) (by kernel_rfl) (by kernel_rfl) (by kernel_rfl) (fun _ _ _ h => h) (Or.inr ⟨by rfl, rfl⟩) (by assumption) ?_
        simp only [Act.put, List.setIfInBounds_toArray, List.set_cons_zero, List.set_cons_succ]
        refine anyW_take 23 (v := ?_) rfl (fun _ => trivial) (by kernel_rfl) (by kernel_rfl) (by kernel_rfl) (by kernel_rfl) (by kernel_rfl) (by kernel_rfl) (by kernel_rfl) (fun _ _ _ h => h) (Or.inl ⟨by rfl, ?_⟩) (by assumption) ?_
        rotate_left
        · intro w hSw
          obtain ⟨_, _, _, _, _, _, _, _, _, _, _⟩ := hSw
          go_simp
          try with_reducible rfl
        simp only [Act.put, List.setIfInBounds_toArray, List.set_cons_zero, List.set_cons_succ]
        refine anyW_take 24 (v := ?_) rfl (fun _ => trivial) (by kernel_rfl) (by kernel_rfl) (by kernel_rfl) (by kernel_rfl) (by kernel_rfl) (by kernel_rfl) (by kernel_rfl) (fun _ _ _ h => h) (Or.inl ⟨by rfl, ?_⟩) (by assumption) ?_
        rotate_left
        · intro w hSw
          obtain ⟨_, _, _, _, _, _, _, _, _, _, _⟩ := hSw
          go_simp
          try with_reducible rfl
        simp only [Act.put, List.setIfInBounds_toArray, List.set_cons_zero, List.set_cons_succ]
        refine anyW_take 25 (v := undef) rfl (fun _ => trivial) (by kernel_rfl) (by kernel_rfl) (by kernel_rfl) (by kernel_rfl) (by kernel_rfl) (by kernel_rfl) (by kernel_rfl) (fun _ _ _ h => h) (Or.inr ⟨by rfl, rfl⟩) (by assumption) ?_
        simp only [Act.put, List.setIfInBounds_toArray, List.set_cons_zero, List.set_cons_succ]
        refine anyW_take 26 (v := undef) rfl (fun _ => trivial) (by kernel_rfl) (by kernel_rfl) (by kernel_rfl) (by kernel_rfl) (by kernel_rfl) (by kernel_rfl) (by kernel_rfl) (fun _ _ _ h => h) (Or.inr ⟨by rfl, rfl⟩) (by assumption) ?_
        simp only [Act.put, List.setIfInBounds_toArray, List.set_cons_zero, List.set_cons_succ]
        refine anyW_take 27 (v := undef) rfl (fun _ => trivial) (by kernel_rfl) (by kernel_rfl) (by kernel_rfl) (by kernel_rfl) (by kernel_rfl) (by kernel_rfl) (by kernel_rfl) (fun _ _ _ h => h) (Or.inr ⟨by rfl, rfl⟩) (by assumption) ?_
        simp only [Act.put, List.setIfInBounds_toArray, List.set_cons_zero, List.set_cons_succ]
        refine anyW_take 28 (v := undef) rfl (fun _ => trivial) (by kernel_rfl) (by kernel_rfl) (by kernel_rfl) (by kernel_rfl) (by kernel_rfl) (by kernel_rfl) (by kernel_rfl) (fun _ _ _ h => h) (Or.inr ⟨by rfl, rfl⟩) (by assumption) ?_
        simp only [Act.put, List.setIfInBounds_toArray, List.set_cons_zero, List.set_cons_succ]
        refine anyW_take 29 (v := ?_) rfl (fun _ => trivial) (by kernel_rfl) (by kernel_rfl) (by kernel_rfl) (by kernel_rfl) (by kernel_rfl) (by kernel_rfl) (by kernel_rfl) (fun _ _ _ h => h) (Or.inl ⟨by rfl, ?_⟩) (by assumption) ?_
        rotate_left
        · intro w hSw
          obtain ⟨_, _, _, _, _, _, _, _, _, _, _⟩ := hSw
          go_simp
          try with_reducible rfl
        simp only [Act.put, List.setIfInBounds_toArray, List.set_cons_zero, List.set_cons_succ]
        refine anyW_done (by kernel_rfl) ?_
        go_wp2_with fail
        go_roundw
        case rel => exact ⟨j + 1, by omega, by go_num, by rw [HSn.out, if_neg (by rw [HP.out]; simp)]; exact HJ2.out, HKX2.out⟩
        case measure => simp [intOf]; omega
      by_cases hqx : (q : Int) = x
      rotate_left
      · have hq2 : ((q : Int) == x) = false := beq_eq_false_iff_ne.2 hqx
        refine (wpIn_wide (n := 3)).1 ?_
        refine wp_region_anyW (fun w' => w'.cell? ⟨b, 2, none⟩ = some (.slice B lb cb) ∧ w'.cell? ⟨b1, 0, none⟩ = some (.int .i64 x) ∧ w'.cell? ⟨b2, 0, none⟩ = some (.int .i64 y) ∧ w'.cell? ⟨bT, 0, none⟩ = some (.int .i64 id) ∧ w'.cell? ⟨bT, 1, none⟩ = some (.int .i64 grp) ∧ w'.cell? ⟨bT, 2, none⟩ = some (.int .i64 wt) ∧ w'.cell? ⟨bT, 3, none⟩ = some (.int .i64 (q : Int)) ∧ w'.cell? ⟨bT, 4, none⟩ = some (.int .u64 mask) ∧ w'.cell? ⟨bT, 5, none⟩ = some (.bool true) ∧ w'.cell? ⟨bT, 6, none⟩ = some (.int .u64 v) ∧ w'.cell? ⟨bT, 7, none⟩ = some (.int .u32 r)) 30 (by kernel_rfl) ?_
        have hS : wA.drew.cell? ⟨b, 2, none⟩ = some (.slice B lb cb) ∧ wA.drew.cell? ⟨b1, 0, none⟩ = some (.int .i64 x) ∧ wA.drew.cell? ⟨b2, 0, none⟩ = some (.int .i64 y) ∧ wA.drew.cell? ⟨bT, 0, none⟩ = some (.int .i64 id) ∧ wA.drew.cell? ⟨bT, 1, none⟩ = some (.int .i64 grp) ∧ wA.drew.cell? ⟨bT, 2, none⟩ = some (.int .i64 wt) ∧ wA.drew.cell? ⟨bT, 3, none⟩ = some (.int .i64 (q : Int)) ∧ wA.drew.cell? ⟨bT, 4, none⟩ = some (.int .u64 mask) ∧ wA.drew.cell? ⟨bT, 5, none⟩ = some (.bool true) ∧ wA.drew.cell? ⟨bT, 6, none⟩ = some (.int .u64 v) ∧ wA.drew.cell? ⟨bT, 7, none⟩ = some (.int .u32 r) := ⟨x2, bx, by', c0, c1, c2, c3, c4, c5, c6, c7⟩
        have HK3 := Lib.hid HK2.out.drew
        have hsz2 : W.heap.size ≤ wA.drew.heap.size := hsz
        clear x2 bx by' c0 c1 c2 c3 c4 c5 c6 c7 HK2 HKP2 hsz HT hbl
        generalize wA.drew = w0 at *
        refine anyW_take 0 (v := ?_) rfl (fun _ => trivial) (by kernel_rfl) (by kernel_rfl) (by kernel_rfl) (by kernel_rfl) (by kernel_rfl) (by kernel_rfl) (by kernel_rfl) (fun _ _ _ h => h) (Or.inl ⟨by rfl, ?_⟩) (by assumption) ?_
        rotate_left
        · intro w hSw
          obtain ⟨_, _, _, _, _, _, _, _, _, _, _⟩ := hSw
          go_simp
          try with_reducible rfl
        simp only [Act.put, List.setIfInBounds_toArray, List.set_cons_zero, List.set_cons_succ]
        refine anyW_take 1 (v := ?_) rfl (fun _ => trivial) (by kernel_rfl) (by kernel_rfl) (by kernel_rfl) (by kernel_rfl) (by kernel_rfl) (by kernel_rfl) (by kernel_rfl) (fun _ _ _ h => h) (Or.inl ⟨by rfl, ?_⟩) (by assumption) ?_
        rotate_left
        · intro w hSw
          obtain ⟨_, _, _, _, _, _, _, _, _, _, _⟩ := hSw
          go_simp
          try with_reducible rfl
        simp only [Act.put, List.setIfInBounds_toArray, List.set_cons_zero, List.set_cons_succ]
        refine anyW_take 2 (v := ?_) rfl (fun _ => trivial) (by kernel_rfl) (by kernel_rfl) (by kernel_rfl) (by kernel_rfl) (by kernel_rfl) (by kernel_rfl) (by kernel_rfl) (fun _ _ _ h => h) (Or.inl ⟨by rfl, ?_⟩) (by assumption) ?_
        rotate_left
        · intro w hSw
          obtain ⟨_, _, _, _, _, _, _, _, _, _, _⟩ := hSw
          go_simp
          try with_reducible rfl
        simp only [Act.put, List.setIfInBounds_toArray, List.set_cons_zero, List.set_cons_succ]
        refine anyW_take 3 (v := ?_) rfl (fun _ => trivial) (by kernel_rfl) (by kernel_rfl) (by kernel_rfl) (by kernel_rfl) (by kernel_rfl) (by kernel_rfl) (by kernel_rfl) (fun _ _ _ h => h) (Or.inl ⟨by rfl, ?_⟩) (by assumption) ?_
        rotate_left
        · intro w hSw
          obtain ⟨_, _, _, _, _, _, _, _, _, _, _⟩ := hSw
          go_simp
          try with_reducible rfl
        simp only [Act.put, List.setIfInBounds_toArray, List.set_cons_zero, List.set_cons_succ]
        refine anyW_take 4 (v := ?_) rfl (fun _ => trivial) (by kernel_rfl) (by kernel_rfl) (by kernel_rfl) (by kernel_rfl) (by kernel_rfl) (by kernel_rfl) (by kernel_rfl) (fun _ _ _ h => h) (Or.inl ⟨by rfl, ?_⟩) (by assumption) ?_
        rotate_left
        · intro w hSw
          obtain ⟨_, _, _, _, _, _, _, _, _, _, _⟩ := hSw
          go_simp
          try with_reducible rfl
        simp only [Act.put, List.setIfInBounds_toArray, List.set_cons_zero, List.set_cons_succ]
        refine anyW_take 5 (v := ?_) rfl (fun _ => trivial) (by kernel_rfl) (by kernel_rfl) (by kernel_rfl) (by kernel_rfl) (by kernel_rfl) (by kernel_rfl) (by kernel_rfl) (fun _ _ _ h => h) (Or.inl ⟨by rfl, ?_⟩) (by assumption) ?_
        rotate_left
        · intro w hSw
          obtain ⟨_, _, _, _, _, _, _, _, _, _, _⟩ := hSw
          go_simp
          try with_reducible rfl
        simp only [Act.put, List.setIfInBounds_toArray, List.set_cons_zero, List.set_cons_succ]
        refine anyW_take 6 (v := ?_) rfl (fun _ => trivial) (by kernel_rfl) (by kernel_rfl) (by kernel_rfl) (by kernel_rfl) (by kernel_rfl) (by kernel_rfl) (by kernel_rfl) (fun _ _ _ h => h) (Or.inl ⟨by rfl, ?_⟩) (by assumption) ?_
        rotate_left
        · intro w hSw
          obtain ⟨_, _, _, _, _, _, _, _, _, _, _⟩ := hSw
          go_simp
          try with_reducible rfl
        simp only [Act.put, List.setIfInBounds_toArray, List.set_cons_zero, List.set_cons_succ]
        refine anyW_take 7 (v := ?_) rfl (fun _ => trivial) (by kernel_rfl) (by kernel_rfl) (by kernel_rfl) (by kernel_rfl) (by kernel_rfl) (by kernel_rfl) (by kernel_rfl) (fun _ _ _ h => h) (Or.inl ⟨by rfl, ?_⟩) (by assumption) ?_
        rotate_left
        · intro w hSw
          obtain ⟨_, _, _, _, _, _, _, _, _, _, _⟩ := hSw
          go_simp
          try with_reducible rfl
        simp only [Act.put, List.setIfInBounds_toArray, List.set_cons_zero, List.set_cons_succ]
        refine anyW_take 8 (v := ?_) rfl (fun _ => trivial) (by kernel_rfl) (by kernel_rfl) (by kernel_rfl) (by kernel_rfl) (by kernel_rfl) (by kernel_rfl) (by kernel_rfl) (fun _ _ _ h => h) (Or.inl ⟨by rfl, ?_⟩) (by assumption) ?_
        rotate_left
        · intro w hSw
          obtain ⟨_, _, _, _, _, _, _, _, _, _, _⟩ := hSw
          go_simp
          try with_reducible rfl
        simp only [Act.put, List.setIfInBounds_toArray, List.set_cons_zero, List.set_cons_succ]
        refine anyW_take 9 (v := undef) rfl (fun _ => trivial) (by kernel_rfl) (by kernel_rfl) (by kernel_rfl) (by kernel_rfl) (by kernel_rfl) (by kernel_rfl) (by kernel_rfl) (fun _ _ _ h => h) (Or.inr ⟨by rfl, rfl⟩) (by assumption) ?_
        simp only [Act.put, List.setIfInBounds_toArray, List.set_cons_zero, List.set_cons_succ]
        refine anyW_take 10 (v := undef) rfl (fun _ => trivial) (by kernel_rfl) (by kernel_rfl) (by kernel_rfl) (by kernel_rfl) (by kernel_rfl) (by kernel_rfl) (by kernel_rfl) (fun _ _ _ h => h) (Or.inr ⟨by rfl, rfl⟩) (by assumption) ?_
        simp only [Act.put, List.setIfInBounds_toArray, List.set_cons_zero, List.set_cons_succ]
        refine anyW_take 11 (v := undef) rfl (fun _ => trivial) (by kernel_rfl) (by kernel_rfl) (by kernel_rfl) (by kernel_rfl) (by kernel_rfl) (by kernel_rfl) (by kernel_rfl) (fun _ _ _ h => h) (Or.inr ⟨by rfl, rfl⟩) (by assumption) ?_
        simp only [Act.put, List.setIfInBounds_toArray, List.set_cons_zero, List.set_cons_succ]
        refine anyW_take 12 (v := undef) rfl (fun _ => trivial) (by kernel_rfl) (by kernel_rfl) (by kernel_rfl) (by kernel_rfl) (by kernel_rfl) (by kernel_rfl) (by kernel_rfl) (fun _ _ _ h => h) (Or.inr ⟨by rfl, rfl⟩) (by assumption) ?_
        simp only [Act.put, List.setIfInBounds_toArray, List.set_cons_zero, List.set_cons_succ]
        refine anyW_take 13 (v := undef) rfl (fun _ => trivial) (by kernel_rfl) (by kernel_rfl) (by kernel_rfl) (by kernel_rfl) (by kernel_rfl) (by kernel_rfl) (by kernel_rfl) (fun _ _ _ h => h) (Or.inr ⟨by rfl, rfl⟩) (by assumption) ?_
        simp only [Act.put, List.setIfInBounds_toArray, List.set_cons_zero, List.set_cons_succ]
        refine anyW_take 14 (v := undef) rfl (fun _ => trivial) (by kernel_rfl) (by kernel_rfl) (by kernel_rfl) (by kernel_rfl) (by kernel_rfl) (by kernel_rfl) (by kernel_rfl) (fun _ _ _ h => h) (Or.inr ⟨by rfl, rfl⟩) (by assumption) ?_
        simp only [Act.put, List.setIfInBounds_toArray, List.set_cons_zero, List.set_cons_succ]
        refine anyW_take 15 (v := undef) rfl (fun _ => trivial) (by kernel_rfl) (by kernel_rfl) (by kernel_rfl) (by kernel_rfl) (by kernel_rfl) (by kernel_rfl) (by kernel_rfl) (fun _ _ _ h => h) (Or.inr ⟨by rfl, rfl⟩) (by assumption) ?_
        simp only [Act.put, List.setIfInBounds_toArray, List.set_cons_zero, List.set_cons_succ]
        refine anyW_take 16 (v := undef) rfl (fun _ => trivial) (by kernel_rfl) (by kernel_rfl) (by kernel_rfl) (by kernel_rfl) (by kernel_rfl) (by kernel_rfl) (by kernel_rfl) (fun _ _ _ h => h) (Or.inr ⟨by rfl, rfl⟩) (by assumption) ?_
        simp only [Act.put, List.setIfInBounds_toArray, List.set_cons_zero, List.set_cons_succ]
        refine anyW_take 17 (v := ?_) rfl (fun _ => trivial) (by kernel_rfl) (by kernel_rfl) (by kernel_rfl) (by kernel_rfl) (by kernel_rfl) (by kernel_rfl) (by kernel_rfl) (fun _ _ _ h => h) (Or.inl ⟨by rfl, ?_⟩) (by assumption) ?_
        rotate_left
        · intro w hSw
          obtain ⟨_, _, _, _, _, _, _, _, _, _, _⟩ := hSw
          go_simp
          try with_reducible rfl
        simp only [Act.put, List.setIfInBounds_toArray, List.set_cons_zero, List.set_cons_succ]
        refine anyW_take 18 (v := ?_) rfl (fun _ => trivial) (by kernel_rfl) (by kernel_rfl) (by kernel_rfl) (by kernel_rfl) (by kernel_rfl) (by kernel_rfl) (by kernel_rfl) (fun _ _ _ h => h) (Or.inl ⟨by rfl, ?_⟩) (by assumption) ?_
        rotate_left
        · intro w hSw
          obtain ⟨_, _, _, _, _, _, _, _, _, _, _⟩ := hSw
          go_simp
          try with_reducible rfl
        simp only [Act.put, List.setIfInBounds_toArray, List.set_cons_zero, List.set_cons_succ]
        refine anyW_take 19 (v := undef) rfl (fun _ => trivial) (by kernel_rfl) (by kernel_rfl) (by kernel_rfl) (by kernel_rfl) (by kernel_rfl) (by kernel_rfl) (by kernel_rfl) (fun _ _ _ h => h) (Or.inr ⟨by rfl, rfl⟩) (by assumption) ?_
        simp only [Act.put, List.setIfInBounds_toArray, List.set_cons_zero, List.set_cons_succ]
        refine anyW_take 20 (v := undef) rfl (fun _ => trivial) (by kernel_rfl) (by kernel_rfl) (by kernel_rfl) (by kernel_rfl) (by kernel_rfl) (by kernel_rfl) (by kernel_rfl) (fun _ _ _ h => h) (Or.inr ⟨by rfl, rfl⟩) (by assumption) ?_
        simp only [Act.put, List.setIfInBounds_toArray, List.set_cons_zero, List.set_cons_succ]
        refine anyW_take 21 (v := undef) rfl (fun _ => trivial) (by kernel_rfl) (by kernel_rfl) (by kernel_rfl) (by kernel_rfl) (by kernel_rfl) (by kernel_rfl) (by kernel_rfl) (fun _ _ _ h => h) (Or.inr ⟨by rfl, rfl⟩) (by assumption) ?_
        simp only [Act.put, List.setIfInBounds_toArray, List.set_cons_zero, List.set_cons_succ]
        refine anyW_take 22 (v := undef) rfl (fun _ => trivial) (by kernel_rfl) (by kernel_rfl) (by kernel_rfl) (by kernel_rfl) (by kernel_rfl) (by kernel_rfl) (by kernel_rfl) (fun _ _ _ h => h) (Or.inr ⟨by rfl, rfl⟩) (by assumption) ?_
        simp only [Act.put, List.setIfInBounds_toArray, List.set_cons_zero, List.set_cons_succ]
        refine anyW_take 23 (v := ?_) rfl (fun _ => trivial) (by kernel_rfl) (by kernel_rfl) (by kernel_rfl) (by kernel_rfl) (by kernel_rfl) (by kernel_rfl) (by kernel_rfl) (fun _ _ _ h => h) (Or.inl ⟨by rfl, ?_⟩) (by assumption) ?_
        rotate_left
        · intro w hSw
          obtain ⟨_, _, _, _, _, _, _, _, _, _, _⟩ := hSw
          go_simp
          try with_reducible rfl
        simp only [Act.put, List.setIfInBounds_toArray, List.set_cons_zero, List.set_cons_succ]
        refine anyW_take 24 (v := ?_) rfl (fun _ => trivial) (by kernel_rfl) (by kernel_rfl) (by kernel_rfl) (by kernel_rfl) (by kernel_rfl) (by kernel_rfl) (by kernel_rfl) (fun _ _ _ h => h) (Or.inl ⟨by rfl, ?_⟩) (by assumption) ?_
        rotate_left
        · intro w hSw
          obtain ⟨_, _, _, _, _, _, _, _, _, _, _⟩ := hSw
          go_simp
          try with_reducible rfl
        simp only [Act.put, List.setIfInBounds_toArray, List.set_cons_zero, List.set_cons_succ]
        refine anyW_take 25 (v := undef) rfl (fun _ => trivial) (by kernel_rfl) (by kernel_rfl) (by kernel_rfl) (by kernel_rfl) (by kernel_rfl) (by kernel_rfl) (by kernel_rfl) (fun _ _ _ h => h) (Or.inr ⟨by rfl, rfl⟩) (by assumption) ?_
        simp only [Act.put, List.setIfInBounds_toArray, List.set_cons_zero, List.set_cons_succ]
        refine anyW_take 26 (v := undef) rfl (fun _ => trivial) (by kernel_rfl) (by kernel_rfl) (by kernel_rfl) (by kernel_rfl) (by kernel_rfl) (by kernel_rfl) (by kernel_rfl) (fun _ _ _ h => h) (Or.inr ⟨by rfl, rfl⟩) (by assumption) ?_
        simp only [Act.put, List.setIfInBounds_toArray, List.set_cons_zero, List.set_cons_succ]
        refine anyW_take 27 (v := undef) rfl (fun _ => trivial) (by kernel_rfl) (by kernel_rfl) (by kernel_rfl) (by kernel_rfl) (by kernel_rfl) (by kernel_rfl) (by kernel_rfl) (fun _ _ _ h => h) (Or.inr ⟨by rfl, rfl⟩) (by assumption) ?_
        simp only [Act.put, List.setIfInBounds_toArray, List.set_cons_zero, List.set_cons_succ]
        refine anyW_take 28 (v := undef) rfl (fun _ => trivial) (by kernel_rfl) (by kernel_rfl) (by kernel_rfl) (by kernel_rfl) (by kernel_rfl) (by kernel_rfl) (by kernel_rfl) (fun _ _ _ h => h) (Or.inr ⟨by rfl, rfl⟩) (by assumption) ?_
        simp only [Act.put, List.setIfInBounds_toArray, List.set_cons_zero, List.set_cons_succ]
        refine anyW_take 29 (v := ?_) rfl (fun _ => trivial) (by kernel_rfl) (by kernel_rfl) (by kernel_rfl) (by kernel_rfl) (by kernel_rfl) (by kernel_rfl) (by kernel_rfl) (fun _ _ _ h => h) (Or.inl ⟨by rfl, ?_⟩) (by assumption) ?_
        rotate_left
        · intro w hSw
          obtain ⟨_, _, _, _, _, _, _, _, _, _, _⟩ := hSw
          go_simp
          try with_reducible rfl
        simp only [Act.put, List.setIfInBounds_toArray, List.set_cons_zero, List.set_cons_succ]
        refine anyW_done (by kernel_rfl) ?_
        go_wp2_with fail
        go_roundw
        case rel => exact ⟨j + 1, by omega, by go_num, by rw [HSn.out, if_neg (by rw [HP.out]; simp [hq2])]; exact HJ2.out, HKX2.out⟩
        case measure => simp [intOf]; omega
      subst hqx
      rw [Int.toNat_natCast] at HP
      obtain ⟨bB, offB, rfl, hbB, cB⟩ := HSC.out.cur q hqlb
      replace cB := (HKP2.out.cell (p := ⟨bB, offB + q, none⟩) hbB).trans cB
      dsimp only at cB
      generalize cur.getD q 0 = z at *
      by_cases hzi : z = id
      · subst hzi
        have hzz : (z != z) = false := by simp
        refine (wpIn_wide (n := 3)).1 ?_
        refine wp_region_anyW (fun w' => w'.cell? ⟨b, 2, none⟩ = some (.slice (some ⟨bB, offB, none⟩) lb cb) ∧ w'.cell? ⟨b1, 0, none⟩ = some (.int .i64 (q : Int)) ∧ w'.cell? ⟨b2, 0, none⟩ = some (.int .i64 y) ∧ w'.cell? ⟨bT, 0, none⟩ = some (.int .i64 z) ∧ w'.cell? ⟨bT, 1, none⟩ = some (.int .i64 grp) ∧ w'.cell? ⟨bT, 2, none⟩ = some (.int .i64 wt) ∧ w'.cell? ⟨bT, 3, none⟩ = some (.int .i64 (q : Int)) ∧ w'.cell? ⟨bT, 4, none⟩ = some (.int .u64 mask) ∧ w'.cell? ⟨bT, 5, none⟩ = some (.bool true) ∧ w'.cell? ⟨bT, 6, none⟩ = some (.int .u64 v) ∧ w'.cell? ⟨bT, 7, none⟩ = some (.int .u32 r) ∧ w'.cell? ⟨bB, offB + q, none⟩ = some (.int .i64 z)) 30 (by kernel_rfl) ?_
        have hS : wA.drew.cell? ⟨b, 2, none⟩ = some (.slice (some ⟨bB, offB, none⟩) lb cb) ∧ wA.drew.cell? ⟨b1, 0, none⟩ = some (.int .i64 (q : Int)) ∧ wA.drew.cell? ⟨b2, 0, none⟩ = some (.int .i64 y) ∧ wA.drew.cell? ⟨bT, 0, none⟩ = some (.int .i64 z) ∧ wA.drew.cell? ⟨bT, 1, none⟩ = some (.int .i64 grp) ∧ wA.drew.cell? ⟨bT, 2, none⟩ = some (.int .i64 wt) ∧ wA.drew.cell? ⟨bT, 3, none⟩ = some (.int .i64 (q : Int)) ∧ wA.drew.cell? ⟨bT, 4, none⟩ = some (.int .u64 mask) ∧ wA.drew.cell? ⟨bT, 5, none⟩ = some (.bool true) ∧ wA.drew.cell? ⟨bT, 6, none⟩ = some (.int .u64 v) ∧ wA.drew.cell? ⟨bT, 7, none⟩ = some (.int .u32 r) ∧ wA.drew.cell? ⟨bB, offB + q, none⟩ = some (.int .i64 z) := ⟨x2, bx, by', c0, c1, c2, c3, c4, c5, c6, c7, cB⟩
        have HK3 := Lib.hid HK2.out.drew
        have hsz2 : W.heap.size ≤ wA.drew.heap.size := hsz
        clear x2 bx by' c0 c1 c2 c3 c4 c5 c6 c7 HK2 HKP2 hsz HT hbl cB
        generalize wA.drew = w0 at *
        refine anyW_take 0 (v := ?_) rfl (fun _ => trivial) (by kernel_rfl) (by kernel_rfl) (by kernel_rfl) (by kernel_rfl) (by kernel_rfl) (by kernel_rfl) (by kernel_rfl) (fun _ _ _ h => h) (Or.inl ⟨by rfl, ?_⟩) (by assumption) ?_
        rotate_left
        · intro w hSw
          obtain ⟨_, _, _, _, _, _, _, _, _, _, _, _⟩ := hSw
          go_simp
          try with_reducible rfl
        simp only [Act.put, List.setIfInBounds_toArray, List.set_cons_zero, List.set_cons_succ]
        refine anyW_take 1 (v := ?_) rfl (fun _ => trivial) (by kernel_rfl) (by kernel_rfl) (by kernel_rfl) (by kernel_rfl) (by kernel_rfl) (by kernel_rfl) (by kernel_rfl) (fun _ _ _ h => h) (Or.inl ⟨by rfl, ?_⟩) (by assumption) ?_
        rotate_left
        · intro w hSw
          obtain ⟨_, _, _, _, _, _, _, _, _, _, _, _⟩ := hSw
          go_simp
          try with_reducible rfl
        simp only [Act.put, List.setIfInBounds_toArray, List.set_cons_zero, List.set_cons_succ]
        refine anyW_take 2 (v := ?_) rfl (fun _ => trivial) (by kernel_rfl) (by kernel_rfl) (by kernel_rfl) (by kernel_rfl) (by kernel_rfl) (by kernel_rfl) (by kernel_rfl) (fun _ _ _ h => h) (Or.inl ⟨by rfl, ?_⟩) (by assumption) ?_
        rotate_left
        · intro w hSw
          obtain ⟨_, _, _, _, _, _, _, _, _, _, _, _⟩ := hSw
          go_simp
          try with_reducible rfl
        simp only [Act.put, List.setIfInBounds_toArray, List.set_cons_zero, List.set_cons_succ]
        refine anyW_take 3 (v := ?_) rfl (fun _ => trivial) (by kernel_rfl) (by kernel_rfl) (by kernel_rfl) (by kernel_rfl) (by kernel_rfl) (by kernel_rfl) (by kernel_rfl) (fun _ _ _ h => h) (Or.inl ⟨by rfl, ?_⟩) (by assumption) ?_
        rotate_left
        · intro w hSw
          obtain ⟨_, _, _, _, _, _, _, _, _, _, _, _⟩ := hSw
          go_simp
          try with_reducible rfl
        simp only [Act.put, List.setIfInBounds_toArray, List.set_cons_zero, List.set_cons_succ]
        refine anyW_take 4 (v := ?_) rfl (fun _ => trivial) (by kernel_rfl) (by kernel_rfl) (by kernel_rfl) (by kernel_rfl) (by kernel_rfl) (by kernel_rfl) (by kernel_rfl) (fun _ _ _ h => h) (Or.inl ⟨by rfl, ?_⟩) (by assumption) ?_
        rotate_left
        · intro w hSw
          obtain ⟨_, _, _, _, _, _, _, _, _, _, _, _⟩ := hSw
          go_simp
          try with_reducible rfl
        simp only [Act.put, List.setIfInBounds_toArray, List.set_cons_zero, List.set_cons_succ]
        refine anyW_take 5 (v := ?_) rfl (fun _ => trivial) (by kernel_rfl) (by kernel_rfl) (by kernel_rfl) (by kernel_rfl) (by kernel_rfl) (by kernel_rfl) (by kernel_rfl) (fun _ _ _ h => h) (Or.inl ⟨by rfl, ?_⟩) (by assumption) ?_
        rotate_left
        · intro w hSw
          obtain ⟨_, _, _, _, _, _, _, _, _, _, _, _⟩ := hSw
          go_simp
          try with_reducible rfl
        simp only [Act.put, List.setIfInBounds_toArray, List.set_cons_zero, List.set_cons_succ]
        refine anyW_take 6 (v := ?_) rfl (fun _ => trivial) (by kernel_rfl) (by kernel_rfl) (by kernel_rfl) (by kernel_rfl) (by kernel_rfl) (by kernel_rfl) (by kernel_rfl) (fun _ _ _ h => h) (Or.inl ⟨by rfl, ?_⟩) (by assumption) ?_
        rotate_left
        · intro w hSw
          obtain ⟨_, _, _, _, _, _, _, _, _, _, _, _⟩ := hSw
          go_simp
          try with_reducible rfl
        simp only [Act.put, List.setIfInBounds_toArray, List.set_cons_zero, List.set_cons_succ]
        refine anyW_take 7 (v := ?_) rfl (fun _ => trivial) (by kernel_rfl) (by kernel_rfl) (by kernel_rfl) (by kernel_rfl) (by kernel_rfl) (by kernel_rfl) (by kernel_rfl) (fun _ _ _ h => h) (Or.inl ⟨by rfl, ?_⟩) (by assumption) ?_
        rotate_left
        · intro w hSw
          obtain ⟨_, _, _, _, _, _, _, _, _, _, _, _⟩ := hSw
          go_simp
          try with_reducible rfl
        simp only [Act.put, List.setIfInBounds_toArray, List.set_cons_zero, List.set_cons_succ]
        refine anyW_take 8 (v := ?_) rfl (fun _ => trivial) (by kernel_rfl) (by kernel_rfl) (by kernel_rfl) (by kernel_rfl) (by kernel_rfl) (by kernel_rfl) (by kernel_rfl) (fun _ _ _ h => h) (Or.inl ⟨by rfl, ?_⟩) (by assumption) ?_
        rotate_left
        · intro w hSw
          obtain ⟨_, _, _, _, _, _, _, _, _, _, _, _⟩ := hSw
          go_simp
          try with_reducible rfl
        simp only [Act.put, List.setIfInBounds_toArray, List.set_cons_zero, List.set_cons_succ]
        refine anyW_take 9 (v := ?_) rfl (fun _ => trivial) (by kernel_rfl) (by kernel_rfl) (by kernel_rfl) (by kernel_rfl) (by kernel_rfl) (by kernel_rfl) (by kernel_rfl) (fun _ _ _ h => h) (Or.inl ⟨by rfl, ?_⟩) (by assumption) ?_
        rotate_left
        · intro w hSw
          obtain ⟨_, _, _, _, _, _, _, _, _, _, _, _⟩ := hSw
          go_simp
          try with_reducible rfl
        simp only [Act.put, List.setIfInBounds_toArray, List.set_cons_zero, List.set_cons_succ]
        refine anyW_take 10 (v := ?_) rfl (fun _ => trivial) (by kernel_rfl) (by kernel_rfl) (by kernel_rfl) (by kernel_rfl) (by kernel_rfl) (by kernel_rfl) (by kernel_rfl) (fun _ _ _ h => h) (Or.inl ⟨by rfl, ?_⟩) (by assumption) ?_
        rotate_left
        · intro w hSw
          obtain ⟨_, _, _, _, _, _, _, _, _, _, _, _⟩ := hSw
          go_simp
          try with_reducible rfl
        simp only [Act.put, List.setIfInBounds_toArray, List.set_cons_zero, List.set_cons_succ]
        refine anyW_take 11 (v := ?_) rfl (fun _ => trivial) (by kernel_rfl) (by kernel_rfl) (by kernel_rfl) (by kernel_rfl) (by kernel_rfl) (by kernel_rfl) (by kernel_rfl) (fun _ _ _ h => h) (Or.inl ⟨by rfl, ?_⟩) (by assumption) ?_
        rotate_left
        · intro w hSw
          obtain ⟨_, _, _, _, _, _, _, _, _, _, _, _⟩ := hSw
          go_simp
          try with_reducible rfl
        simp only [Act.put, List.setIfInBounds_toArray, List.set_cons_zero, List.set_cons_succ]
        refine anyW_take 12 (v := ?_) rfl (fun _ => trivial) (by kernel_rfl) (by kernel_rfl) (by kernel_rfl) (by kernel_rfl) (by kernel_rfl) (by kernel_rfl) (by kernel_rfl) (fun _ _ _ h => h) (Or.inl ⟨by rfl, ?_⟩) (by assumption) ?_
        rotate_left
        · intro w hSw
          obtain ⟨_, _, _, _, _, _, _, _, _, _, _, _⟩ := hSw
          go_simp
          try with_reducible rfl
        simp only [Act.put, List.setIfInBounds_toArray, List.set_cons_zero, List.set_cons_succ]
        refine anyW_take 13 (v := ?_) rfl (fun _ => trivial) (by kernel_rfl) (by kernel_rfl) (by kernel_rfl) (by kernel_rfl) (by kernel_rfl) (by kernel_rfl) (by kernel_rfl) (fun _ _ _ h => h) (Or.inl ⟨by rfl, ?_⟩) (by assumption) ?_
        rotate_left
        · intro w hSw
          obtain ⟨_, _, _, _, _, _, _, _, _, _, _, _⟩ := hSw
          go_simp
          try with_reducible rfl
        simp only [Act.put, List.setIfInBounds_toArray, List.set_cons_zero, List.set_cons_succ]
        refine anyW_take 14 (v := ?_) rfl (fun _ => trivial) (by kernel_rfl) (by kernel_rfl) (by kernel_rfl) (by kernel_rfl) (by kernel_rfl) (by kernel_rfl) (by kernel_rfl) (fun _ _ _ h => h) (Or.inl ⟨by rfl, ?_⟩) (by assumption) ?_
        rotate_left
        · intro w hSw
          obtain ⟨_, _, _, _, _, _, _, _, _, _, _, _⟩ := hSw
          go_simp
          try with_reducible rfl
        simp only [Act.put, List.setIfInBounds_toArray, List.set_cons_zero, List.set_cons_succ]
        refine anyW_take 15 (v := ?_) rfl (fun _ => trivial) (by kernel_rfl) (by kernel_rfl) (by kernel_rfl) (by kernel_rfl) (by kernel_rfl) (by kernel_rfl) (by kernel_rfl) (fun _ _ _ h => h) (Or.inl ⟨by rfl, ?_⟩) (by assumption) ?_
        rotate_left
        · intro w hSw
          obtain ⟨_, _, _, _, _, _, _, _, _, _, _, _⟩ := hSw
          go_simp
          try with_reducible rfl
        simp only [Act.put, List.setIfInBounds_toArray, List.set_cons_zero, List.set_cons_succ]
        refine anyW_take 16 (v := ?_) rfl (fun _ => trivial) (by kernel_rfl) (by kernel_rfl) (by kernel_rfl) (by kernel_rfl) (by kernel_rfl) (by kernel_rfl) (by kernel_rfl) (fun _ _ _ h => h) (Or.inl ⟨by rfl, ?_⟩) (by assumption) ?_
        rotate_left
        · intro w hSw
          obtain ⟨_, _, _, _, _, _, _, _, _, _, _, _⟩ := hSw
          go_simp
          try with_reducible rfl
        simp only [Act.put, List.setIfInBounds_toArray, List.set_cons_zero, List.set_cons_succ]
        refine anyW_take 17 (v := ?_) rfl (fun _ => trivial) (by kernel_rfl) (by kernel_rfl) (by kernel_rfl) (by kernel_rfl) (by kernel_rfl) (by kernel_rfl) (by kernel_rfl) (fun _ _ _ h => h) (Or.inl ⟨by rfl, ?_⟩) (by assumption) ?_
        rotate_left
        · intro w hSw
          obtain ⟨_, _, _, _, _, _, _, _, _, _, _, _⟩ := hSw
          go_simp
          try with_reducible rfl
        simp only [Act.put, List.setIfInBounds_toArray, List.set_cons_zero, List.set_cons_succ]
        refine anyW_take 18 (v := ?_) rfl (fun _ => trivial) (by kernel_rfl) (by kernel_rfl) (by kernel_rfl) (by kernel_rfl) (by kernel_rfl) (by kernel_rfl) (by kernel_rfl) (fun _ _ _ h => h) (Or.inl ⟨by rfl, ?_⟩) (by assumption) ?_
        rotate_left
        · intro w hSw
          obtain ⟨_, _, _, _, _, _, _, _, _, _, _, _⟩ := hSw
          go_simp
          try with_reducible rfl
        simp only [Act.put, List.setIfInBounds_toArray, List.set_cons_zero, List.set_cons_succ]
        refine anyW_take 19 (v := undef) rfl (fun _ => trivial) (by kernel_rfl) (by kernel_rfl) (by kernel_rfl) (by kernel_rfl) (by kernel_rfl) (by kernel_rfl) (by kernel_rfl) (fun _ _ _ h => h) (Or.inr ⟨by rfl, rfl⟩) (by assumption) ?_
        simp only [Act.put, List.setIfInBounds_toArray, List.set_cons_zero, List.set_cons_succ]
        refine anyW_take 20 (v := undef) rfl (fun _ => trivial) (by kernel_rfl) (by kernel_rfl) (by kernel_rfl) (by kernel_rfl) (by kernel_rfl) (by kernel_rfl) (by kernel_rfl) (fun _ _ _ h => h) (Or.inr ⟨by rfl, rfl⟩) (by assumption) ?_
        simp only [Act.put, List.setIfInBounds_toArray, List.set_cons_zero, List.set_cons_succ]
        refine anyW_take 21 (v := undef) rfl (fun _ => trivial) (by kernel_rfl) (by kernel_rfl) (by kernel_rfl) (by kernel_rfl) (by kernel_rfl) (by kernel_rfl) (by kernel_rfl) (fun _ _ _ h => h) (Or.inr ⟨by rfl, rfl⟩) (by assumption) ?_
        simp only [Act.put, List.setIfInBounds_toArray, List.set_cons_zero, List.set_cons_succ]
        refine anyW_take 22 (v := undef) rfl (fun _ => trivial) (by kernel_rfl) (by kernel_rfl) (by kernel_rfl) (by kernel_rfl) (by kernel_rfl) (by kernel_rfl) (by kernel_rfl) (fun _ _ _ h => h) (Or.inr ⟨by rfl, rfl⟩) (by assumption) ?_
        simp only [Act.put, List.setIfInBounds_toArray, List.set_cons_zero, List.set_cons_succ]
        refine anyW_take 23 (v := ?_) rfl (fun _ => trivial) (by kernel_rfl) (by kernel_rfl) (by kernel_rfl) (by kernel_rfl) (by kernel_rfl) (by kernel_rfl) (by kernel_rfl) (fun _ _ _ h => h) (Or.inl ⟨by rfl, ?_⟩) (by assumption) ?_
        rotate_left
        · intro w hSw
          obtain ⟨_, _, _, _, _, _, _, _, _, _, _, _⟩ := hSw
          go_simp
          try with_reducible rfl
        simp only [Act.put, List.setIfInBounds_toArray, List.set_cons_zero, List.set_cons_succ]
        refine anyW_take 24 (v := ?_) rfl (fun _ => trivial) (by kernel_rfl) (by kernel_rfl) (by kernel_rfl) (by kernel_rfl) (by kernel_rfl) (by kernel_rfl) (by kernel_rfl) (fun _ _ _ h => h) (Or.inl ⟨by rfl, ?_⟩) (by assumption) ?_
        rotate_left
        · intro w hSw
          obtain ⟨_, _, _, _, _, _, _, _, _, _, _, _⟩ := hSw
          go_simp
          try with_reducible rfl
        simp only [Act.put, List.setIfInBounds_toArray, List.set_cons_zero, List.set_cons_succ]
        refine anyW_take 25 (v := undef) rfl (fun _ => trivial) (by kernel_rfl) (by kernel_rfl) (by kernel_rfl) (by kernel_rfl) (by kernel_rfl) (by kernel_rfl) (by kernel_rfl) (fun _ _ _ h => h) (Or.inr ⟨by rfl, rfl⟩) (by assumption) ?_
        simp only [Act.put, List.setIfInBounds_toArray, List.set_cons_zero, List.set_cons_succ]
        refine anyW_take 26 (v := undef) rfl (fun _ => trivial) (by kernel_rfl) (by kernel_rfl) (by kernel_rfl) (by kernel_rfl) (by kernel_rfl) (by kernel_rfl) (by kernel_rfl) (fun _ _ _ h => h) (Or.inr ⟨by rfl, rfl⟩) (by assumption) ?_
        simp only [Act.put, List.setIfInBounds_toArray, List.set_cons_zero, List.set_cons_succ]
        refine anyW_take 27 (v := undef) rfl (fun _ => trivial) (by kernel_rfl) (by kernel_rfl) (by kernel_rfl) (by kernel_rfl) (by kernel_rfl) (by kernel_rfl) (by kernel_rfl) (fun _ _ _ h => h) (Or.inr ⟨by rfl, rfl⟩) (by assumption) ?_
        simp only [Act.put, List.setIfInBounds_toArray, List.set_cons_zero, List.set_cons_succ]
        refine anyW_take 28 (v := undef) rfl (fun _ => trivial) (by kernel_rfl) (by kernel_rfl) (by kernel_rfl) (by kernel_rfl) (by kernel_rfl) (by kernel_rfl) (by kernel_rfl) (fun _ _ _ h => h) (Or.inr ⟨by rfl, rfl⟩) (by assumption) ?_
        simp only [Act.put, List.setIfInBounds_toArray, List.set_cons_zero, List.set_cons_succ]
        refine anyW_take 29 (v := ?_) rfl (fun _ => trivial) (by kernel_rfl) (by kernel_rfl) (by kernel_rfl) (by kernel_rfl) (by kernel_rfl) (by kernel_rfl) (by kernel_rfl) (fun _ _ _ h => h) (Or.inl ⟨by rfl, ?_⟩) (by assumption) ?_
        rotate_left
        · intro w hSw
          obtain ⟨_, _, _, _, _, _, _, _, _, _, _, _⟩ := hSw
          go_simp
          try with_reducible rfl
        simp only [Act.put, List.setIfInBounds_toArray, List.set_cons_zero, List.set_cons_succ]
        refine anyW_done (by kernel_rfl) ?_
        go_wp2_with fail
        go_roundw
        case rel => exact ⟨j + 1, by omega, by go_num, by rw [HSn.out, if_neg (by rw [HP.out]; simp)]; exact HJ2.out, HKX2.out⟩
        case measure => simp [intOf]; omega
      have hz2 : (z != id) = true := bne_iff_ne.2 hzi
      have HH := fun w => Lib.hid (has_any w m0 m1 y0 y1)
      cases hb : hasB mask y
      · rw [hb] at HH HP
        refine (wpIn_wide (n := 3)).1 ?_
        refine wp_region_anyW (fun w' => w'.cell? ⟨b, 2, none⟩ = some (.slice (some ⟨bB, offB, none⟩) lb cb) ∧ w'.cell? ⟨b1, 0, none⟩ = some (.int .i64 (q : Int)) ∧ w'.cell? ⟨b2, 0, none⟩ = some (.int .i64 y) ∧ w'.cell? ⟨bT, 0, none⟩ = some (.int .i64 id) ∧ w'.cell? ⟨bT, 1, none⟩ = some (.int .i64 grp) ∧ w'.cell? ⟨bT, 2, none⟩ = some (.int .i64 wt) ∧ w'.cell? ⟨bT, 3, none⟩ = some (.int .i64 (q : Int)) ∧ w'.cell? ⟨bT, 4, none⟩ = some (.int .u64 mask) ∧ w'.cell? ⟨bT, 5, none⟩ = some (.bool true) ∧ w'.cell? ⟨bT, 6, none⟩ = some (.int .u64 v) ∧ w'.cell? ⟨bT, 7, none⟩ = some (.int .u32 r) ∧ w'.cell? ⟨bB, offB + q, none⟩ = some (.int .i64 z)) 30 (by kernel_rfl) ?_
        have hS : wA.drew.cell? ⟨b, 2, none⟩ = some (.slice (some ⟨bB, offB, none⟩) lb cb) ∧ wA.drew.cell? ⟨b1, 0, none⟩ = some (.int .i64 (q : Int)) ∧ wA.drew.cell? ⟨b2, 0, none⟩ = some (.int .i64 y) ∧ wA.drew.cell? ⟨bT, 0, none⟩ = some (.int .i64 id) ∧ wA.drew.cell? ⟨bT, 1, none⟩ = some (.int .i64 grp) ∧ wA.drew.cell? ⟨bT, 2, none⟩ = some (.int .i64 wt) ∧ wA.drew.cell? ⟨bT, 3, none⟩ = some (.int .i64 (q : Int)) ∧ wA.drew.cell? ⟨bT, 4, none⟩ = some (.int .u64 mask) ∧ wA.drew.cell? ⟨bT, 5, none⟩ = some (.bool true) ∧ wA.drew.cell? ⟨bT, 6, none⟩ = some (.int .u64 v) ∧ wA.drew.cell? ⟨bT, 7, none⟩ = some (.int .u32 r) ∧ wA.drew.cell? ⟨bB, offB + q, none⟩ = some (.int .i64 z) := ⟨x2, bx, by', c0, c1, c2, c3, c4, c5, c6, c7, cB⟩
        have HK3 := Lib.hid HK2.out.drew
        have hsz2 : W.heap.size ≤ wA.drew.heap.size := hsz
        clear x2 bx by' c0 c1 c2 c3 c4 c5 c6 c7 HK2 HKP2 hsz HT hbl cB
        generalize wA.drew = w0 at *
        refine anyW_take 0 (v := ?_) rfl (fun _ => trivial) (by kernel_rfl) (by kernel_rfl) (by kernel_rfl) (by kernel_rfl) (by kernel_rfl) (by kernel_rfl) (by kernel_rfl) (fun _ _ _ h => h) (Or.inl ⟨by rfl, ?_⟩) (by assumption) ?_
        rotate_left
        · intro w hSw
          obtain ⟨_, _, _, _, _, _, _, _, _, _, _, _⟩ := hSw
          go_simp
          try with_reducible rfl
        simp only [Act.put, List.setIfInBounds_toArray, List.set_cons_zero, List.set_cons_succ]
        refine anyW_take 1 (v := ?_) rfl (fun _ => trivial) (by kernel_rfl) (by kernel_rfl) (by kernel_rfl) (by kernel_rfl) (by kernel_rfl) (by kernel_rfl) (by kernel_rfl) (fun _ _ _ h => h) (Or.inl ⟨by rfl, ?_⟩) (by assumption) ?_
        rotate_left
        · intro w hSw
          obtain ⟨_, _, _, _, _, _, _, _, _, _, _, _⟩ := hSw
          go_simp
          try with_reducible rfl
        simp only [Act.put, List.setIfInBounds_toArray, List.set_cons_zero, List.set_cons_succ]
        refine anyW_take 2 (v := ?_) rfl (fun _ => trivial) (by kernel_rfl) (by kernel_rfl) (by kernel_rfl) (by kernel_rfl) (by kernel_rfl) (by kernel_rfl) (by kernel_rfl) (fun _ _ _ h => h) (Or.inl ⟨by rfl, ?_⟩) (by assumption) ?_
        rotate_left
        · intro w hSw
          obtain ⟨_, _, _, _, _, _, _, _, _, _, _, _⟩ := hSw
          go_simp
          try with_reducible rfl
        simp only [Act.put, List.setIfInBounds_toArray, List.set_cons_zero, List.set_cons_succ]
        refine anyW_take 3 (v := ?_) rfl (fun _ => trivial) (by kernel_rfl) (by kernel_rfl) (by kernel_rfl) (by kernel_rfl) (by kernel_rfl) (by kernel_rfl) (by kernel_rfl) (fun _ _ _ h => h) (Or.inl ⟨by rfl, ?_⟩) (by assumption) ?_
        rotate_left
        · intro w hSw
          obtain ⟨_, _, _, _, _, _, _, _, _, _, _, _⟩ := hSw
          go_simp
          try with_reducible rfl
        simp only [Act.put, List.setIfInBounds_toArray, List.set_cons_zero, List.set_cons_succ]
        refine anyW_take 4 (v := ?_) rfl (fun _ => trivial) (by kernel_rfl) (by kernel_rfl) (by kernel_rfl) (by kernel_rfl) (by kernel_rfl) (by kernel_rfl) (by kernel_rfl) (fun _ _ _ h => h) (Or.inl ⟨by rfl, ?_⟩) (by assumption) ?_
        rotate_left
        · intro w hSw
          obtain ⟨_, _, _, _, _, _, _, _, _, _, _, _⟩ := hSw
          go_simp
          try with_reducible rfl
        simp only [Act.put, List.setIfInBounds_toArray, List.set_cons_zero, List.set_cons_succ]
        refine anyW_take 5 (v := ?_) rfl (fun _ => trivial) (by kernel_rfl) (by kernel_rfl) (by kernel_rfl) (by kernel_rfl) (by kernel_rfl) (by kernel_rfl) (by kernel_rfl) (fun _ _ _ h => h) (Or.inl ⟨by rfl, ?_⟩) (by assumption) ?_
        rotate_left
        · intro w hSw
          obtain ⟨_, _, _, _, _, _, _, _, _, _, _, _⟩ := hSw
          go_simp
          try with_reducible rfl
        simp only [Act.put, List.setIfInBounds_toArray, List.set_cons_zero, List.set_cons_succ]
        refine anyW_take 6 (v := ?_) rfl (fun _ => trivial) (by kernel_rfl) (by kernel_rfl) (by kernel_rfl) (by kernel_rfl) (by kernel_rfl) (by kernel_rfl) (by kernel_rfl) (fun _ _ _ h => h) (Or.inl ⟨by rfl, ?_⟩) (by assumption) ?_
        rotate_left
        · intro w hSw
          obtain ⟨_, _, _, _, _, _, _, _, _, _, _, _⟩ := hSw
          go_simp
          try with_reducible rfl
        simp only [Act.put, List.setIfInBounds_toArray, List.set_cons_zero, List.set_cons_succ]
        refine anyW_take 7 (v := ?_) rfl (fun _ => trivial) (by kernel_rfl) (by kernel_rfl) (by kernel_rfl) (by kernel_rfl) (by kernel_rfl) (by kernel_rfl) (by kernel_rfl) (fun _ _ _ h => h) (Or.inl ⟨by rfl, ?_⟩) (by assumption) ?_
        rotate_left
        · intro w hSw
          obtain ⟨_, _, _, _, _, _, _, _, _, _, _, _⟩ := hSw
          go_simp
          try with_reducible rfl
        simp only [Act.put, List.setIfInBounds_toArray, List.set_cons_zero, List.set_cons_succ]
        refine anyW_take 8 (v := ?_) rfl (fun _ => trivial) (by kernel_rfl) (by kernel_rfl) (by kernel_rfl) (by kernel_rfl) (by kernel_rfl) (by kernel_rfl) (by kernel_rfl) (fun _ _ _ h => h) (Or.inl ⟨by rfl, ?_⟩) (by assumption) ?_
        rotate_left
        · intro w hSw
          obtain ⟨_, _, _, _, _, _, _, _, _, _, _, _⟩ := hSw
          go_simp
          try with_reducible rfl
        simp only [Act.put, List.setIfInBounds_toArray, List.set_cons_zero, List.set_cons_succ]
        refine anyW_take 9 (v := ?_) rfl (fun _ => trivial) (by kernel_rfl) (by kernel_rfl) (by kernel_rfl) (by kernel_rfl) (by kernel_rfl) (by kernel_rfl) (by kernel_rfl) (fun _ _ _ h => h) (Or.inl ⟨by rfl, ?_⟩) (by assumption) ?_
        rotate_left
        · intro w hSw
          obtain ⟨_, _, _, _, _, _, _, _, _, _, _, _⟩ := hSw
          go_simp
          try with_reducible rfl
        simp only [Act.put, List.setIfInBounds_toArray, List.set_cons_zero, List.set_cons_succ]
        refine anyW_take 10 (v := ?_) rfl (fun _ => trivial) (by kernel_rfl) (by kernel_rfl) (by kernel_rfl) (by kernel_rfl) (by kernel_rfl) (by kernel_rfl) (by kernel_rfl) (fun _ _ _ h => h) (Or.inl ⟨by rfl, ?_⟩) (by assumption) ?_
        rotate_left
        · intro w hSw
          obtain ⟨_, _, _, _, _, _, _, _, _, _, _, _⟩ := hSw
          go_simp
          try with_reducible rfl
        simp only [Act.put, List.setIfInBounds_toArray, List.set_cons_zero, List.set_cons_succ]
        refine anyW_take 11 (v := ?_) rfl (fun _ => trivial) (by kernel_rfl) (by kernel_rfl) (by kernel_rfl) (by kernel_rfl) (by kernel_rfl) (by kernel_rfl) (by kernel_rfl) (fun _ _ _ h => h) (Or.inl ⟨by rfl, ?_⟩) (by assumption) ?_
        rotate_left
        · intro w hSw
          obtain ⟨_, _, _, _, _, _, _, _, _, _, _, _⟩ := hSw
          go_simp
          try with_reducible rfl
        simp only [Act.put, List.setIfInBounds_toArray, List.set_cons_zero, List.set_cons_succ]
        refine anyW_take 12 (v := ?_) rfl (fun _ => trivial) (by kernel_rfl) (by kernel_rfl) (by kernel_rfl) (by kernel_rfl) (by kernel_rfl) (by kernel_rfl) (by kernel_rfl) (fun _ _ _ h => h) (Or.inl ⟨by rfl, ?_⟩) (by assumption) ?_
        rotate_left
        · intro w hSw
          obtain ⟨_, _, _, _, _, _, _, _, _, _, _, _⟩ := hSw
          go_simp
          try with_reducible rfl
        simp only [Act.put, List.setIfInBounds_toArray, List.set_cons_zero, List.set_cons_succ]
        refine anyW_take 13 (v := ?_) rfl (fun _ => trivial) (by kernel_rfl) (by kernel_rfl) (by kernel_rfl) (by kernel_rfl) (by kernel_rfl) (by kernel_rfl) (by kernel_rfl) (fun _ _ _ h => h) (Or.inl ⟨by rfl, ?_⟩) (by assumption) ?_
        rotate_left
        · intro w hSw
          obtain ⟨_, _, _, _, _, _, _, _, _, _, _, _⟩ := hSw
          go_simp
          try with_reducible rfl
        simp only [Act.put, List.setIfInBounds_toArray, List.set_cons_zero, List.set_cons_succ]
        refine anyW_take 14 (v := ?_) rfl (fun _ => trivial) (by kernel_rfl) (by kernel_rfl) (by kernel_rfl) (by kernel_rfl) (by kernel_rfl) (by kernel_rfl) (by kernel_rfl) (fun _ _ _ h => h) (Or.inl ⟨by rfl, ?_⟩) (by assumption) ?_
        rotate_left
        · intro w hSw
          obtain ⟨_, _, _, _, _, _, _, _, _, _, _, _⟩ := hSw
          go_simp
          try with_reducible rfl
        simp only [Act.put, List.setIfInBounds_toArray, List.set_cons_zero, List.set_cons_succ]
        refine anyW_take 15 (v := ?_) rfl (fun _ => trivial) (by kernel_rfl) (by kernel_rfl) (by kernel_rfl) (by kernel_rfl) (by kernel_rfl) (by kernel_rfl) (by kernel_rfl) (fun _ _ _ h => h) (Or.inl ⟨by rfl, ?_⟩) (by assumption) ?_
        rotate_left
        · intro w hSw
          obtain ⟨_, _, _, _, _, _, _, _, _, _, _, _⟩ := hSw
          go_simp
          try with_reducible rfl
        simp only [Act.put, List.setIfInBounds_toArray, List.set_cons_zero, List.set_cons_succ]
        refine anyW_take 16 (v := ?_) rfl (fun _ => trivial) (by kernel_rfl) (by kernel_rfl) (by kernel_rfl) (by kernel_rfl) (by kernel_rfl) (by kernel_rfl) (by kernel_rfl) (fun _ _ _ h => h) (Or.inl ⟨by rfl, ?_⟩) (by assumption) ?_
        rotate_left
        · intro w hSw
          obtain ⟨_, _, _, _, _, _, _, _, _, _, _, _⟩ := hSw
          go_simp
          try with_reducible rfl
        simp only [Act.put, List.setIfInBounds_toArray, List.set_cons_zero, List.set_cons_succ]
        refine anyW_take 17 (v := ?_) rfl (fun _ => trivial) (by kernel_rfl) (by kernel_rfl) (by kernel_rfl) (by kernel_rfl) (by kernel_rfl) (by kernel_rfl) (by kernel_rfl) (fun _ _ _ h => h) (Or.inl ⟨by rfl, ?_⟩) (by assumption) ?_
        rotate_left
        · intro w hSw
          obtain ⟨_, _, _, _, _, _, _, _, _, _, _, _⟩ := hSw
          go_simp
          try with_reducible rfl
        simp only [Act.put, List.setIfInBounds_toArray, List.set_cons_zero, List.set_cons_succ]
        refine anyW_take 18 (v := ?_) rfl (fun _ => trivial) (by kernel_rfl) (by kernel_rfl) (by kernel_rfl) (by kernel_rfl) (by kernel_rfl) (by kernel_rfl) (by kernel_rfl) (fun _ _ _ h => h) (Or.inl ⟨by rfl, ?_⟩) (by assumption) ?_
        rotate_left
        · intro w hSw
          obtain ⟨_, _, _, _, _, _, _, _, _, _, _, _⟩ := hSw
          go_simp
          try with_reducible rfl
        simp only [Act.put, List.setIfInBounds_toArray, List.set_cons_zero, List.set_cons_succ]
        refine anyW_take 19 (v := ?_) rfl (fun _ => trivial) (by kernel_rfl) (by kernel_rfl) (by kernel_rfl) (by kernel_rfl) (by kernel_rfl) (by kernel_rfl) (by kernel_rfl) (fun _ _ _ h => h) (Or.inl ⟨by rfl, ?_⟩) (by assumption) ?_
        rotate_left
        · intro w hSw
          obtain ⟨_, _, _, _, _, _, _, _, _, _, _, _⟩ := hSw
          go_simp
          try with_reducible rfl
        simp only [Act.put, List.setIfInBounds_toArray, List.set_cons_zero, List.set_cons_succ]
        refine anyW_take 20 (v := ?_) rfl (fun _ => trivial) (by kernel_rfl) (by kernel_rfl) (by kernel_rfl) (by kernel_rfl) (by kernel_rfl) (by kernel_rfl) (by kernel_rfl) (fun _ _ _ h => h) (Or.inl ⟨by rfl, ?_⟩) (by assumption) ?_
        rotate_left
        · intro w hSw
          obtain ⟨_, _, _, _, _, _, _, _, _, _, _, _⟩ := hSw
          go_simp
          try with_reducible rfl
        simp only [Act.put, List.setIfInBounds_toArray, List.set_cons_zero, List.set_cons_succ]
        refine anyW_take 21 (v := ?_) rfl (fun _ => trivial) (by kernel_rfl) (by kernel_rfl) (by kernel_rfl) (by kernel_rfl) (by kernel_rfl) (by kernel_rfl) (by kernel_rfl) (fun _ _ _ h => h) (Or.inl ⟨by rfl, ?_⟩) (by assumption) ?_
        rotate_left
        · intro w hSw
          obtain ⟨_, _, _, _, _, _, _, _, _, _, _, _⟩ := hSw
          go_simp
          try with_reducible rfl
        simp only [Act.put, List.setIfInBounds_toArray, List.set_cons_zero, List.set_cons_succ]
        refine anyW_one 22 rfl (by kernel_rfl) (by rfl) ?_
        go_simp
        refine ⟨trivial, callsIn_wide.2 ?_⟩
        (with_reducible refine (HH _).out.mono ?_)
        rintro e w2 ⟨rfl, rfl⟩
        dsimp only
        refine and_keep hS (fun _ => ?_)
        refine anyW_take 23 (v := ?_) rfl (fun _ => trivial) (by kernel_rfl) (by kernel_rfl) (by kernel_rfl) (by kernel_rfl) (by kernel_rfl) (by kernel_rfl) (by kernel_rfl) (fun _ _ _ h => h) (Or.inl ⟨by rfl, ?_⟩) (by assumption) ?_
        rotate_left
        · intro w hSw
          obtain ⟨_, _, _, _, _, _, _, _, _, _, _, _⟩ := hSw
          go_simp
          try with_reducible rfl
        simp only [Act.put, List.setIfInBounds_toArray, List.set_cons_zero, List.set_cons_succ]
        refine anyW_take 24 (v := ?_) rfl (fun _ => trivial) (by kernel_rfl) (by kernel_rfl) (by kernel_rfl) (by kernel_rfl) (by kernel_rfl) (by kernel_rfl) (by kernel_rfl) (fun _ _ _ h => h) (Or.inl ⟨by rfl, ?_⟩) (by assumption) ?_
        rotate_left
        · intro w hSw
          obtain ⟨_, _, _, _, _, _, _, _, _, _, _, _⟩ := hSw
          go_simp
          try with_reducible rfl
        simp only [Act.put, List.setIfInBounds_toArray, List.set_cons_zero, List.set_cons_succ]
        refine anyW_take 25 (v := undef) rfl (fun _ => trivial) (by kernel_rfl) (by kernel_rfl) (by kernel_rfl) (by kernel_rfl) (by kernel_rfl) (by kernel_rfl) (by kernel_rfl) (fun _ _ _ h => h) (Or.inr ⟨by rfl, rfl⟩) (by assumption) ?_
        simp only [Act.put, List.setIfInBounds_toArray, List.set_cons_zero, List.set_cons_succ]
        refine anyW_take 26 (v := undef) rfl (fun _ => trivial) (by kernel_rfl) (by kernel_rfl) (by kernel_rfl) (by kernel_rfl) (by kernel_rfl) (by kernel_rfl) (by kernel_rfl) (fun _ _ _ h => h) (Or.inr ⟨by rfl, rfl⟩) (by assumption) ?_
        simp only [Act.put, List.setIfInBounds_toArray, List.set_cons_zero, List.set_cons_succ]
        refine anyW_take 27 (v := undef) rfl (fun _ => trivial) (by kernel_rfl) (by kernel_rfl) (by kernel_rfl) (by kernel_rfl) (by kernel_rfl) (by kernel_rfl) (by kernel_rfl) (fun _ _ _ h => h) (Or.inr ⟨by rfl, rfl⟩) (by assumption) ?_
        simp only [Act.put, List.setIfInBounds_toArray, List.set_cons_zero, List.set_cons_succ]
        refine anyW_take 28 (v := undef) rfl (fun _ => trivial) (by kernel_rfl) (by kernel_rfl) (by kernel_rfl) (by kernel_rfl) (by kernel_rfl) (by kernel_rfl) (by kernel_rfl) (fun _ _ _ h => h) (Or.inr ⟨by rfl, rfl⟩) (by assumption) ?_
        simp only [Act.put, List.setIfInBounds_toArray, List.set_cons_zero, List.set_cons_succ]
        refine anyW_take 29 (v := ?_) rfl (fun _ => trivial) (by kernel_rfl) (by kernel_rfl) (by kernel_rfl) (by kernel_rfl) (by kernel_rfl) (by kernel_rfl) (by kernel_rfl) (fun _ _ _ h => h) (Or.inl ⟨by rfl, ?_⟩) (by assumption) ?_
        rotate_left
        · intro w hSw
          obtain ⟨_, _, _, _, _, _, _, _, _, _, _, _⟩ := hSw
          go_simp
          try with_reducible rfl
        simp only [Act.put, List.setIfInBounds_toArray, List.set_cons_zero, List.set_cons_succ]
        refine anyW_done (by kernel_rfl) ?_
        go_wp2_with fail
        go_roundw
        case rel => exact ⟨j + 1, by omega, by go_num, by rw [HSn.out, if_neg (by rw [HP.out]; simp)]; exact HJ2.out, HKX2.out⟩
        case measure => simp [intOf]; omega
      · rw [hb] at HH HP
        have HP2 := Lib.hid (HP.out.trans (show (true && (q : Int) == (q : Int) && z != id && true) = true by rw [hz2]; simp))
        obtain ⟨rest, hrest⟩ := HPre.out HP2.out
        refine (wpIn_wide (n := 3)).1 ?_
        refine wp_region_anyW (fun w' => w'.cell? ⟨b, 2, none⟩ = some (.slice (some ⟨bB, offB, none⟩) lb cb) ∧ w'.cell? ⟨b1, 0, none⟩ = some (.int .i64 (q : Int)) ∧ w'.cell? ⟨b2, 0, none⟩ = some (.int .i64 y) ∧ w'.cell? ⟨bT, 0, none⟩ = some (.int .i64 id) ∧ w'.cell? ⟨bT, 1, none⟩ = some (.int .i64 grp) ∧ w'.cell? ⟨bT, 2, none⟩ = some (.int .i64 wt) ∧ w'.cell? ⟨bT, 3, none⟩ = some (.int .i64 (q : Int)) ∧ w'.cell? ⟨bT, 4, none⟩ = some (.int .u64 mask) ∧ w'.cell? ⟨bT, 5, none⟩ = some (.bool true) ∧ w'.cell? ⟨bT, 6, none⟩ = some (.int .u64 v) ∧ w'.cell? ⟨bT, 7, none⟩ = some (.int .u32 r) ∧ w'.cell? ⟨bB, offB + q, none⟩ = some (.int .i64 z)) 27 (by kernel_rfl) ?_
        have hS : wA.drew.cell? ⟨b, 2, none⟩ = some (.slice (some ⟨bB, offB, none⟩) lb cb) ∧ wA.drew.cell? ⟨b1, 0, none⟩ = some (.int .i64 (q : Int)) ∧ wA.drew.cell? ⟨b2, 0, none⟩ = some (.int .i64 y) ∧ wA.drew.cell? ⟨bT, 0, none⟩ = some (.int .i64 id) ∧ wA.drew.cell? ⟨bT, 1, none⟩ = some (.int .i64 grp) ∧ wA.drew.cell? ⟨bT, 2, none⟩ = some (.int .i64 wt) ∧ wA.drew.cell? ⟨bT, 3, none⟩ = some (.int .i64 (q : Int)) ∧ wA.drew.cell? ⟨bT, 4, none⟩ = some (.int .u64 mask) ∧ wA.drew.cell? ⟨bT, 5, none⟩ = some (.bool true) ∧ wA.drew.cell? ⟨bT, 6, none⟩ = some (.int .u64 v) ∧ wA.drew.cell? ⟨bT, 7, none⟩ = some (.int .u32 r) ∧ wA.drew.cell? ⟨bB, offB + q, none⟩ = some (.int .i64 z) := ⟨x2, bx, by', c0, c1, c2, c3, c4, c5, c6, c7, cB⟩
        have HK3 := Lib.hid HK2.out.drew
        have hsz2 : W.heap.size ≤ wA.drew.heap.size := hsz
        clear x2 bx by' c0 c1 c2 c3 c4 c5 c6 c7 HK2 HKP2 hsz HT hbl cB
        generalize wA.drew = w0 at *
        refine anyW_take 0 (v := ?_) rfl (fun _ => trivial) (by kernel_rfl) (by kernel_rfl) (by kernel_rfl) (by kernel_rfl) (by kernel_rfl) (by kernel_rfl) (by kernel_rfl) (fun _ _ _ h => h) (Or.inl ⟨by rfl, ?_⟩) (by assumption) ?_
        rotate_left
        · intro w hSw
          obtain ⟨_, _, _, _, _, _, _, _, _, _, _, _⟩ := hSw
          go_simp
          try with_reducible rfl
        simp only [Act.put, List.setIfInBounds_toArray, List.set_cons_zero, List.set_cons_succ]
        refine anyW_take 1 (v := ?_) rfl (fun _ => trivial) (by kernel_rfl) (by kernel_rfl) (by kernel_rfl) (by kernel_rfl) (by kernel_rfl) (by kernel_rfl) (by kernel_rfl) (fun _ _ _ h => h) (Or.inl ⟨by rfl, ?_⟩) (by assumption) ?_
        rotate_left
        · intro w hSw
          obtain ⟨_, _, _, _, _, _, _, _, _, _, _, _⟩ := hSw
          go_simp
          try with_reducible rfl
        simp only [Act.put, List.setIfInBounds_toArray, List.set_cons_zero, List.set_cons_succ]
        refine anyW_take 2 (v := ?_) rfl (fun _ => trivial) (by kernel_rfl) (by kernel_rfl) (by kernel_rfl) (by kernel_rfl) (by kernel_rfl) (by kernel_rfl) (by kernel_rfl) (fun _ _ _ h => h) (Or.inl ⟨by rfl, ?_⟩) (by assumption) ?_
        rotate_left
        · intro w hSw
          obtain ⟨_, _, _, _, _, _, _, _, _, _, _, _⟩ := hSw
          go_simp
          try with_reducible rfl
        simp only [Act.put, List.setIfInBounds_toArray, List.set_cons_zero, List.set_cons_succ]
        refine anyW_take 3 (v := ?_) rfl (fun _ => trivial) (by kernel_rfl) (by kernel_rfl) (by kernel_rfl) (by kernel_rfl) (by kernel_rfl) (by kernel_rfl) (by kernel_rfl) (fun _ _ _ h => h) (Or.inl ⟨by rfl, ?_⟩) (by assumption) ?_
        rotate_left
        · intro w hSw
          obtain ⟨_, _, _, _, _, _, _, _, _, _, _, _⟩ := hSw
          go_simp
          try with_reducible rfl
        simp only [Act.put, List.setIfInBounds_toArray, List.set_cons_zero, List.set_cons_succ]
        refine anyW_take 4 (v := ?_) rfl (fun _ => trivial) (by kernel_rfl) (by kernel_rfl) (by kernel_rfl) (by kernel_rfl) (by kernel_rfl) (by kernel_rfl) (by kernel_rfl) (fun _ _ _ h => h) (Or.inl ⟨by rfl, ?_⟩) (by assumption) ?_
        rotate_left
        · intro w hSw
          obtain ⟨_, _, _, _, _, _, _, _, _, _, _, _⟩ := hSw
          go_simp
          try with_reducible rfl
        simp only [Act.put, List.setIfInBounds_toArray, List.set_cons_zero, List.set_cons_succ]
        refine anyW_take 5 (v := ?_) rfl (fun _ => trivial) (by kernel_rfl) (by kernel_rfl) (by kernel_rfl) (by kernel_rfl) (by kernel_rfl) (by kernel_rfl) (by kernel_rfl) (fun _ _ _ h => h) (Or.inl ⟨by rfl, ?_⟩) (by assumption) ?_
        rotate_left
        · intro w hSw
          obtain ⟨_, _, _, _, _, _, _, _, _, _, _, _⟩ := hSw
          go_simp
          try with_reducible rfl
        simp only [Act.put, List.setIfInBounds_toArray, List.set_cons_zero, List.set_cons_succ]
        refine anyW_take 6 (v := ?_) rfl (fun _ => trivial) (by kernel_rfl) (by kernel_rfl) (by kernel_rfl) (by kernel_rfl) (by kernel_rfl) (by kernel_rfl) (by kernel_rfl) (fun _ _ _ h => h) (Or.inl ⟨by rfl, ?_⟩) (by assumption) ?_
        rotate_left
        · intro w hSw
          obtain ⟨_, _, _, _, _, _, _, _, _, _, _, _⟩ := hSw
          go_simp
          try with_reducible rfl
        simp only [Act.put, List.setIfInBounds_toArray, List.set_cons_zero, List.set_cons_succ]
        refine anyW_take 7 (v := ?_) rfl (fun _ => trivial) (by kernel_rfl) (by kernel_rfl) (by kernel_rfl) (by kernel_rfl) (by kernel_rfl) (by kernel_rfl) (by kernel_rfl) (fun _ _ _ h => h) (Or.inl ⟨by rfl, ?_⟩) (by assumption) ?_
        rotate_left
        · intro w hSw
          obtain ⟨_, _, _, _, _, _, _, _, _, _, _, _⟩ := hSw
          go_simp
          try with_reducible rfl
        simp only [Act.put, List.setIfInBounds_toArray, List.set_cons_zero, List.set_cons_succ]
        refine anyW_take 8 (v := ?_) rfl (fun _ => trivial) (by kernel_rfl) (by kernel_rfl) (by kernel_rfl) (by kernel_rfl) (by kernel_rfl) (by kernel_rfl) (by kernel_rfl) (fun _ _ _ h => h) (Or.inl ⟨by rfl, ?_⟩) (by assumption) ?_
        rotate_left
        · intro w hSw
          obtain ⟨_, _, _, _, _, _, _, _, _, _, _, _⟩ := hSw
          go_simp
          try with_reducible rfl
        simp only [Act.put, List.setIfInBounds_toArray, List.set_cons_zero, List.set_cons_succ]
        refine anyW_take 9 (v := ?_) rfl (fun _ => trivial) (by kernel_rfl) (by kernel_rfl) (by kernel_rfl) (by kernel_rfl) (by kernel_rfl) (by kernel_rfl) (by kernel_rfl) (fun _ _ _ h => h) (Or.inl ⟨by rfl, ?_⟩) (by assumption) ?_
        rotate_left
        · intro w hSw
          obtain ⟨_, _, _, _, _, _, _, _, _, _, _, _⟩ := hSw
          go_simp
          try with_reducible rfl
        simp only [Act.put, List.setIfInBounds_toArray, List.set_cons_zero, List.set_cons_succ]
        refine anyW_take 10 (v := ?_) rfl (fun _ => trivial) (by kernel_rfl) (by kernel_rfl) (by kernel_rfl) (by kernel_rfl) (by kernel_rfl) (by kernel_rfl) (by kernel_rfl) (fun _ _ _ h => h) (Or.inl ⟨by rfl, ?_⟩) (by assumption) ?_
        rotate_left
        · intro w hSw
          obtain ⟨_, _, _, _, _, _, _, _, _, _, _, _⟩ := hSw
          go_simp
          try with_reducible rfl
        simp only [Act.put, List.setIfInBounds_toArray, List.set_cons_zero, List.set_cons_succ]
        refine anyW_take 11 (v := ?_) rfl (fun _ => trivial) (by kernel_rfl) (by kernel_rfl) (by kernel_rfl) (by kernel_rfl) (by kernel_rfl) (by kernel_rfl) (by kernel_rfl) (fun _ _ _ h => h) (Or.inl ⟨by rfl, ?_⟩) (by assumption) ?_
        rotate_left
        · intro w hSw
          obtain ⟨_, _, _, _, _, _, _, _, _, _, _, _⟩ := hSw
          go_simp
          try with_reducible rfl
        simp only [Act.put, List.setIfInBounds_toArray, List.set_cons_zero, List.set_cons_succ]
        refine anyW_take 12 (v := ?_) rfl (fun _ => trivial) (by kernel_rfl) (by kernel_rfl) (by kernel_rfl) (by kernel_rfl) (by kernel_rfl) (by kernel_rfl) (by kernel_rfl) (fun _ _ _ h => h) (Or.inl ⟨by rfl, ?_⟩) (by assumption) ?_
        rotate_left
        · intro w hSw
          obtain ⟨_, _, _, _, _, _, _, _, _, _, _, _⟩ := hSw
          go_simp
          try with_reducible rfl
        simp only [Act.put, List.setIfInBounds_toArray, List.set_cons_zero, List.set_cons_succ]
        refine anyW_take 13 (v := ?_) rfl (fun _ => trivial) (by kernel_rfl) (by kernel_rfl) (by kernel_rfl) (by kernel_rfl) (by kernel_rfl) (by kernel_rfl) (by kernel_rfl) (fun _ _ _ h => h) (Or.inl ⟨by rfl, ?_⟩) (by assumption) ?_
        rotate_left
        · intro w hSw
          obtain ⟨_, _, _, _, _, _, _, _, _, _, _, _⟩ := hSw
          go_simp
          try with_reducible rfl
        simp only [Act.put, List.setIfInBounds_toArray, List.set_cons_zero, List.set_cons_succ]
        refine anyW_take 14 (v := ?_) rfl (fun _ => trivial) (by kernel_rfl) (by kernel_rfl) (by kernel_rfl) (by kernel_rfl) (by kernel_rfl) (by kernel_rfl) (by kernel_rfl) (fun _ _ _ h => h) (Or.inl ⟨by rfl, ?_⟩) (by assumption) ?_
        rotate_left
        · intro w hSw
          obtain ⟨_, _, _, _, _, _, _, _, _, _, _, _⟩ := hSw
          go_simp
          try with_reducible rfl
        simp only [Act.put, List.setIfInBounds_toArray, List.set_cons_zero, List.set_cons_succ]
        refine anyW_take 15 (v := ?_) rfl (fun _ => trivial) (by kernel_rfl) (by kernel_rfl) (by kernel_rfl) (by kernel_rfl) (by kernel_rfl) (by kernel_rfl) (by kernel_rfl) (fun _ _ _ h => h) (Or.inl ⟨by rfl, ?_⟩) (by assumption) ?_
        rotate_left
        · intro w hSw
          obtain ⟨_, _, _, _, _, _, _, _, _, _, _, _⟩ := hSw
          go_simp
          try with_reducible rfl
        simp only [Act.put, List.setIfInBounds_toArray, List.set_cons_zero, List.set_cons_succ]
        refine anyW_take 16 (v := ?_) rfl (fun _ => trivial) (by kernel_rfl) (by kernel_rfl) (by kernel_rfl) (by kernel_rfl) (by kernel_rfl) (by kernel_rfl) (by kernel_rfl) (fun _ _ _ h => h) (Or.inl ⟨by rfl, ?_⟩) (by assumption) ?_
        rotate_left
        · intro w hSw
          obtain ⟨_, _, _, _, _, _, _, _, _, _, _, _⟩ := hSw
          go_simp
          try with_reducible rfl
        simp only [Act.put, List.setIfInBounds_toArray, List.set_cons_zero, List.set_cons_succ]
        refine anyW_take 17 (v := ?_) rfl (fun _ => trivial) (by kernel_rfl) (by kernel_rfl) (by kernel_rfl) (by kernel_rfl) (by kernel_rfl) (by kernel_rfl) (by kernel_rfl) (fun _ _ _ h => h) (Or.inl ⟨by rfl, ?_⟩) (by assumption) ?_
        rotate_left
        · intro w hSw
          obtain ⟨_, _, _, _, _, _, _, _, _, _, _, _⟩ := hSw
          go_simp
          try with_reducible rfl
        simp only [Act.put, List.setIfInBounds_toArray, List.set_cons_zero, List.set_cons_succ]
        refine anyW_take 18 (v := ?_) rfl (fun _ => trivial) (by kernel_rfl) (by kernel_rfl) (by kernel_rfl) (by kernel_rfl) (by kernel_rfl) (by kernel_rfl) (by kernel_rfl) (fun _ _ _ h => h) (Or.inl ⟨by rfl, ?_⟩) (by assumption) ?_
        rotate_left
        · intro w hSw
          obtain ⟨_, _, _, _, _, _, _, _, _, _, _, _⟩ := hSw
          go_simp
          try with_reducible rfl
        simp only [Act.put, List.setIfInBounds_toArray, List.set_cons_zero, List.set_cons_succ]
        refine anyW_take 19 (v := ?_) rfl (fun _ => trivial) (by kernel_rfl) (by kernel_rfl) (by kernel_rfl) (by kernel_rfl) (by kernel_rfl) (by kernel_rfl) (by kernel_rfl) (fun _ _ _ h => h) (Or.inl ⟨by rfl, ?_⟩) (by assumption) ?_
        rotate_left
        · intro w hSw
          obtain ⟨_, _, _, _, _, _, _, _, _, _, _, _⟩ := hSw
          go_simp
          try with_reducible rfl
        simp only [Act.put, List.setIfInBounds_toArray, List.set_cons_zero, List.set_cons_succ]
        refine anyW_take 20 (v := ?_) rfl (fun _ => trivial) (by kernel_rfl) (by kernel_rfl) (by kernel_rfl) (by kernel_rfl) (by kernel_rfl) (by kernel_rfl) (by kernel_rfl) (fun _ _ _ h => h) (Or.inl ⟨by rfl, ?_⟩) (by assumption) ?_
        rotate_left
        · intro w hSw
          obtain ⟨_, _, _, _, _, _, _, _, _, _, _, _⟩ := hSw
          go_simp
          try with_reducible rfl
        simp only [Act.put, List.setIfInBounds_toArray, List.set_cons_zero, List.set_cons_succ]
        refine anyW_take 21 (v := ?_) rfl (fun _ => trivial) (by kernel_rfl) (by kernel_rfl) (by kernel_rfl) (by kernel_rfl) (by kernel_rfl) (by kernel_rfl) (by kernel_rfl) (fun _ _ _ h => h) (Or.inl ⟨by rfl, ?_⟩) (by assumption) ?_
        rotate_left
        · intro w hSw
          obtain ⟨_, _, _, _, _, _, _, _, _, _, _, _⟩ := hSw
          go_simp
          try with_reducible rfl
        simp only [Act.put, List.setIfInBounds_toArray, List.set_cons_zero, List.set_cons_succ]
        refine anyW_one 22 rfl (by kernel_rfl) (by rfl) ?_
        go_simp
        refine ⟨trivial, callsIn_wide.2 ?_⟩
        (with_reducible refine (HH _).out.mono ?_)
        rintro e w2 ⟨rfl, rfl⟩
        dsimp only
        refine and_keep hS (fun _ => ?_)
        refine anyW_take 23 (v := ?_) rfl (fun _ => trivial) (by kernel_rfl) (by kernel_rfl) (by kernel_rfl) (by kernel_rfl) (by kernel_rfl) (by kernel_rfl) (by kernel_rfl) (fun _ _ _ h => h) (Or.inl ⟨by rfl, ?_⟩) (by assumption) ?_
        rotate_left
        · intro w hSw
          obtain ⟨_, _, _, _, _, _, _, _, _, _, _, _⟩ := hSw
          go_simp
          try with_reducible rfl
        simp only [Act.put, List.setIfInBounds_toArray, List.set_cons_zero, List.set_cons_succ]
        refine anyW_take 24 (v := ?_) rfl (fun _ => trivial) (by kernel_rfl) (by kernel_rfl) (by kernel_rfl) (by kernel_rfl) (by kernel_rfl) (by kernel_rfl) (by kernel_rfl) (fun _ _ _ h => h) (Or.inl ⟨by rfl, ?_⟩) (by assumption) ?_
        rotate_left
        · intro w hSw
          obtain ⟨_, _, _, _, _, _, _, _, _, _, _, _⟩ := hSw
          go_simp
          try with_reducible rfl
        simp only [Act.put, List.setIfInBounds_toArray, List.set_cons_zero, List.set_cons_succ]
        refine anyW_take 25 (v := ?_) rfl (fun _ => trivial) (by kernel_rfl) (by kernel_rfl) (by kernel_rfl) (by kernel_rfl) (by kernel_rfl) (by kernel_rfl) (by kernel_rfl) (fun _ _ _ h => h) (Or.inl ⟨by rfl, ?_⟩) (by assumption) ?_
        rotate_left
        · intro w hSw
          obtain ⟨_, _, _, _, _, _, _, _, _, _, _, _⟩ := hSw
          go_simp
          try with_reducible rfl
        simp only [Act.put, List.setIfInBounds_toArray, List.set_cons_zero, List.set_cons_succ]
        refine anyW_take 26 (v := ?_) rfl (fun _ => trivial) (by kernel_rfl) (by kernel_rfl) (by kernel_rfl) (by kernel_rfl) (by kernel_rfl) (by kernel_rfl) (by kernel_rfl) (fun _ _ _ h => h) (Or.inl ⟨by rfl, ?_⟩) (by assumption) ?_
        rotate_left
        · intro w hSw
          obtain ⟨_, _, _, _, _, _, _, _, _, _, _, _⟩ := hSw
          go_simp
          try with_reducible rfl
        simp only [Act.put, List.setIfInBounds_toArray, List.set_cons_zero, List.set_cons_succ]
        obtain ⟨fn, tmps, assign, body, hy, hR⟩ := HYY.out _ _ _ hrest w0 hsz2 HJ2.out
        have HRest := Lib.hid hrest
        clear hrest
        try dsimp only at hy
        refine anyW_one 27 rfl (by kernel_rfl) (by rfl) ?_
        go_simp
        refine (roundIn_any hR).mono ?_
        rintro e2 W2 ⟨⟨rfl, hj2⟩ | ⟨rfl, hj2⟩, hk2⟩
        · dsimp only
          refine anyW_one 28 rfl (by kernel_rfl) (by rfl) ?_
          go_simp
          refine anyW_one 29 rfl (by kernel_rfl) (by rfl) ?_
          go_simp
          refine anyW_done (by kernel_rfl) ?_
          go_wp2_with fail
          go_roundw
          case rel => exact ⟨j + 1, by omega, by go_num, by rw [HSn.out, if_pos HP2.out]; exact hj2, HKX2.out.trans hk2⟩
          case measure => simp [intOf]; omega
        · dsimp only
          refine anyW_one 28 rfl (by kernel_rfl) (by rfl) ?_
          go_simp
          refine anyW_one 29 rfl (by kernel_rfl) (by rfl) ?_
          go_simp
          refine anyW_done (by kernel_rfl) ?_
          go_wp2_with fail
          refine bodyPost_ret (results_none rfl _ _ _) rfl ?_
          exact ⟨⟨_, rfl⟩, Or.inr ⟨_, _, ⟨_, HRest.out⟩, hj2⟩⟩
    · have hje : j = la := by omega
      subst hje
      have hjn : ¬ ((j : Int) < (j : Int)) := by omega
      have htk : ts.take j = ts := List.take_of_length_le (by have := HSC.out.hla; dsimp only at this; omega)
      rw [htk, ← HHL.out] at hjj
      go_wp2_with fail
      go_end0
      exact ⟨⟨_, rfl⟩, Or.inl hjj⟩
end Go.Proofs.Yticgdfbknaholaa
