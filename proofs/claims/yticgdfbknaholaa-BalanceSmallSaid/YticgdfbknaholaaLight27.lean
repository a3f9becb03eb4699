/-
  The light ones of the free tasks: the iterator that Pull makes.
-/
import Derived.Test.YticgdfbknaholaaFree27
namespace Go.Proofs.Yticgdfbknaholaa
open Go.RowKit
attribute [local go_sem] Oper.semAt_some

theorem Kx.swap {a b m : Nat} {w w' : World} (h : Kx 0 0 a b w w') : Kx a b m m w w' := ⟨h.os, h.output, h.size, fun k hk ho _ => h.block k hk (Or.inr (Nat.zero_le _)) ho⟩
theorem TkAt.kx {w w' : World} {b o : Nat} {t : Tk} {n1 n2 m1 m2 : Nat} (h : TkAt w b o t) (k : Kx n1 n2 m1 m2 w w') (hb : b < n1 ∨ n2 ≤ b) (hm : b < m1 ∨ m2 ≤ b) : TkAt w' b o t := h.blk (k.block b h.lt hb hm) k.size
/-- Whether a task is light enough. -/
def lightB (f : Nat → Int) (p q : Nat) (t : Tk) : Bool := decide (2 * t.wt ≤ f p - f q)
def lightL (s : Sc) (f : Nat → Int) (p q : Nat) : List Tk := (freeL s p q).filter (lightB f p q)
theorem freeL_mem {s : Sc} {a b : Int} {t : Tk} (h : t ∈ freeL s a b) : t ∈ s.ts ∧ freeB s a b t = true := List.mem_filter.1 h
theorem light_yes {L : List Tk} {pb : Tk → Bool} {pre : List Tk} {x : Tk} {rest : List Tk} (h : L = pre ++ x :: rest) (hp : pb x = true) : L.filter pb = pre.filter pb ++ x :: rest.filter pb ∧ (pre ++ [x]).filter pb = pre.filter pb ++ [x] := by
  subst h
  simp [List.filter_append, hp]
theorem light_no {pb : Tk → Bool} {pre : List Tk} {x : Tk} (hp : pb x = false) : (pre ++ [x]).filter pb = pre.filter pb := by
  simp [List.filter_append, hp]
set_option maxRecDepth 100000 in
set_option maxHeartbeats 8000000 in
theorem light_iter {W0 : World} {A B : Option Addr} {la ca lb cb bS bF bC bL bR p q : Nat} {s : Sc} {f : Nat → Int} (hs : ScAt W0 A la B lb s) (hf : s.fit) (hX : C3 W0 bS (.int .i64 s.n) (.slice A la ca) (.slice B lb cb)) (hF : Bx W0 bF (.int .i64 (p : Int))) (hC : Bx W0 bC (.int .i64 (q : Int))) (hL : Bx W0 bL (.slice (some ⟨bR, 0, none⟩) lb lb)) (hR : Row W0 bR lb (fun c => .int .i64 (f c)))
    (hp : p < lb) (hq : q < lb) (hbd : ∀ c, 0 ≤ f c ∧ f c ≤ 4294967296) :
    Iter Try.prog 38 #[.pointer (some ⟨bS, 0, none⟩), .pointer (some ⟨bF, 0, none⟩), .pointer (some ⟨bC, 0, none⟩), .pointer (some ⟨bL, 0, none⟩)] (fun t : Tk => #[tkv t]) (lightL s f p q) 0 0 W0 := by
  intro l J Jx W hk hJ hJx hY hj
  have HLF : lightL s f p q = (freeL s p q).filter (lightB f p q) := rfl
  generalize lightL s f p q = L at *
  have HLF2 := Lib.hid HLF
  clear HLF
  have hn := hk.size
  have hk0 : Kp W0.heap.size W0 W := hk.kp (Nat.le_refl _) (Or.inl (Nat.le_refl _)) (Or.inl (Nat.le_refl _))
  have hlb64 : lb ≤ 64 := by have h1 := hf.cur; have h2 := hf.n64; rw [hs.hlb] at h1; omega
  have HFIT := Lib.hid hf.each
  have HSC := Lib.hid hs
  have HX := Lib.hid hX
  have HF := Lib.hid hF
  have HC := Lib.hid hC
  have HL := Lib.hid hL
  have HR := Lib.hid hR
  have HJ := Lib.hid hJ
  have HJX := Lib.hid hJx
  have HY := Lib.hid hY
  have HFI := Lib.hid hf
  have lX := hX.lt
  have lF := hF.lt
  have lC := hC.lt
  have lL := hL.lt
  have lR := hR.lt
  have HK0 := Lib.hid hk0
  have lX2 : bS < W.heap.size := by omega
  have lF2 : bF < W.heap.size := by omega
  have lC2 : bC < W.heap.size := by omega
  obtain ⟨x0, x1, x2, xl⟩ := hX.kp hk0
  have f0 := (hF.kps hk0).cell
  have c0 := (hC.kps hk0).cell
  obtain ⟨n, ts, cur⟩ := s
  dsimp only at *
  refine (callsIn_wide (n := 3)).1 ?_
  refine callsIn_of_wp_marks Try.func38 rfl trivial ?_ rfl
  refine wpIn_wide.2 ?_
  simp only [Try.ntmps38, List.size_toArray, List.length_cons, List.length_nil, Nat.reduceAdd, Nat.reduceSub, Array.replicate_succ, Array.replicate_zero, List.push_toArray, List.append_toArray, List.nil_append, List.cons_append]
  have K1 := Lib.hid ((Kp.refl W.heap.size W).alloc (Nat.le_refl _) (.cells #[.func (.yield l) #[] #[]] 65))
  have B5 := Lib.hid (Bx.new W (.func (.yield l) #[] #[]) 65)
  have HFF := fun w => Lib.hid (freeFn_any w (A := A) (B := B) (la := la) (ca := ca) (lb := lb) (cb := cb) (n := n) (x := (p : Int)) (y := (q : Int)))
  clear hf hs hX hF hC hL hR hJ hJx hY hk hk0
  go_wp2_with fail
  (with_reducible refine (HFF _).out.mono ?_)
  clear x0 x1 x2 xl f0 c0
  rintro e w2 ⟨b, b1, b2, rfl, X2, F2, C2, ⟨g0, g1, g2⟩, hk2⟩
  have hwl : W.heap.size < (W.alloc (.cells #[.func (.yield l) #[] #[]] 65)).heap.size := by rw [World.size_alloc]; omega
  have B6 := Lib.hid (B5.out.kps hk2)
  have K2 := Lib.hid (K1.out.trans (hk2.mono K1.out.size))
  have e0 : W.heap.size ≤ b := by omega
  have e1 : W.heap.size ≤ b1 := by omega
  have e2 : W.heap.size ≤ b2 := by omega
  obtain ⟨b5, hb5⟩ : ∃ b5, b5 = W.heap.size := ⟨_, rfl⟩
  have hb5' := Lib.hid hb5
  rw [← hb5] at B6
  have hw2 : b5 < w2.heap.size := B6.out.lt
  have hW2 : W.heap.size ≤ w2.heap.size := K2.out.size
  have KA := Lib.hid (HK0.out.trans (K2.out.mono hn))
  have HIT := free_iter (Wp := W0) (W0 := w2) (n1 := W0.heap.size) (n2 := W.heap.size) HSC.out KA.out (Nat.le_refl _) e0 e1 e2 HFI.out X2 F2 C2 (by omega) (by omega)
  clear K1 B5 hk2 X2 F2 C2 g0 g1 g2 hwl e0 e1 e2
  go_wp2_with fail
  rw [← hb5]
  clear hb5
  refine (wpIn_wide (n := 3)).1 ?_
  have hj2 := HJ.out _ _ _ hj K2.out
  have HLF := HLF2.out
  have HMEM := fun t => Lib.hid (fun (h : t ∈ freeL ⟨n, ts, cur⟩ (p : Int) (q : Int)) => (freeL_mem h).1)
  have HLB := fun t => Lib.hid (show lightB f p q t = decide (2 * t.wt ≤ f p - f q) from rfl)
  have HP0 := Lib.hid (hbd p)
  have HQ0 := Lib.hid (hbd q)
  clear HLF2
  generalize freeL ⟨n, ts, cur⟩ (p : Int) (q : Int) = M at *
  generalize lightB f p q = lt at *
  have HLM := Lib.hid HLF
  clear HLF hbd
  refine range_law (m := 1) (gf := 52) rfl (enters_of Try.func52 (by kernel_rfl) rfl) HIT hW2 (Kx.refl _ _ _ _ _) (fun _ => rfl)
    (fun pre w => J (pre.filter lt) w ∧ Bx w b5 (.func (.yield l) #[] #[]) ∧ Kp W0.heap.size W0 w ∧ W.heap.size ≤ w.heap.size)
    (fun _ w => ∃ pre x rest, L = pre ++ x :: rest ∧ Jx (pre ++ [x]) w)
    (fun pre A B ⟨i0, i1, i2, i3⟩ k => ⟨HJ.out _ _ _ i0 (k.mono hW2), i1.kp k hw2, i2.trans (k.mono (Nat.le_trans hn hW2)), Nat.le_trans i3 k.size⟩)
    (fun _ A B ⟨pre, x, rest, h, h2⟩ k => ⟨pre, x, rest, h, HJX.out _ _ _ h2 (k.mono hW2)⟩) ⟨hj2, B6.out, KA.out, hW2⟩ ?round ?done ?stop
  case stop =>
    rintro D pre x rest V _ hD hi hd
    obtain ⟨pre2, x2, rest2, h, h2⟩ := hi
    refine ⟨by simp, .inl ⟨_, _, rfl, run_takeDeferred hd, ?_⟩⟩
    exact ⟨_, results_none rfl _ _ _, ⟨_, rfl⟩, Or.inr ⟨pre2, x2, rest2, h, HJX.out _ _ _ h2 ((Kp.refl _ _).put (Nat.le_trans hW2 hD) _)⟩⟩
  case done =>
    rintro D V hD ⟨hi, _, _, _⟩ hd
    go_wp2_with fail
    refine ⟨by simp, .inl ⟨_, _, rfl, run_takeDeferred hd, ?_⟩⟩
    exact ⟨_, results_none rfl _ _ _, ⟨_, rfl⟩, Or.inl (by rw [HLM.out]; exact HJ.out _ _ _ hi ((Kp.refl _ _).put (Nat.le_trans hW2 hD) _))⟩
  case round =>
    clear HIT hj2 hj
    rintro l2 pre x rest hxs V hl1 hl2 ⟨hj0, i5, i6, i7⟩
    have hfit := HFIT.out x ((HMEM x).out (by rw [hxs]; simp))
    have HX1 := HLB x
    have HYES := Lib.hid (fun (h : lt x = true) => light_yes hxs h)
    have HNO := Lib.hid (fun (h : lt x = false) => light_no (pre := pre) h)
    clear HMEM HLB HFIT hxs
    obtain ⟨id, grp, wt, cpu, mask, rdy, v, r⟩ := x
    obtain ⟨_, _, _, _, p2, p3, _⟩ := hfit
    dsimp only at p2 p3 HX1
    have HI := Lib.hid (And.intro hj0 (And.intro i5 (And.intro i6 i7)))
    clear hj0 i5 i6 i7
    gi_wp2
    refine ⟨(Kp.refl _ V).alloc (Nat.le_refl _) _, fun Wb hkb hsb j1 i5 i6 i7 => ?_⟩
    have T := (TkAt.new V ⟨id, grp, wt, cpu, mask, rdy, v, r⟩ 43).kx hkb (Or.inr (Nat.zero_le _)) (by omega)
    obtain ⟨bT, hbT⟩ : ∃ bT, bT = V.heap.size := ⟨_, rfl⟩
    rw [← hbT] at T
    rw [← hbT]
    clear hbT hkb hsb HI
    have HJ1 := Lib.hid (show J (pre.filter lt) Wb.drew from HJ.out _ _ _ j1 (((Kp.refl _ Wb).mono i7).drew))
    have HI7 := Lib.hid (show Kp W0.heap.size W0 Wb.drew from i6.drew)
    have H5 := Lib.hid i5.drew
    have ws : W.heap.size ≤ Wb.drew.heap.size := i7
    have HK := Lib.hid (show Kx W0.heap.size W.heap.size w2.heap.size w2.heap.size Wb Wb.drew from (Kx.refl _ _ _ _ _).drew)
    obtain ⟨y0, y1, y2, y3, y4, y5, y6, y7, yl⟩ := T
    simp only [Nat.zero_add] at y0 y1 y2 y3 y4 y5 y6 y7
    have z0 := (HL.out.kps i6).cell
    have z1 := (HF.out.kps i6).cell
    have z2 := (HC.out.kps i6).cell
    have z3 := (HR.out.kp i6).cells p hp
    have z4 := (HR.out.kp i6).cells q hq
    have z5 := i5.cell
    have hpi : (p : Int) < lb := by omega
    have hqi : (q : Int) < lb := by omega
    obtain ⟨u0, u1⟩ := HP0.out
    obtain ⟨u2, u3⟩ := HQ0.out
    generalize f p = fp at *
    generalize f q = fq at *
    have gw : IntKind.i64.wrap (fp - fq) = fp - fq := by rw [IntKind.wrap_i64]; omega
    have gm : IntKind.i64.wrap (2 * wt) = 2 * wt := by rw [IntKind.wrap_i64]; omega
    clear i5 i6 i7 j1
    by_cases hle : 2 * wt ≤ fp - fq
    · have hyes := HYES.out (by rw [HX1.out]; exact decide_eq_true hle)
      gi_wp2
      refine wp_region_anyW (fun w' => w'.cell? ⟨bL, 0, none⟩ = some (.slice (some ⟨bR, 0, none⟩) lb lb) ∧ w'.cell? ⟨bF, 0, none⟩ = some (.int .i64 (p : Int)) ∧ w'.cell? ⟨bC, 0, none⟩ = some (.int .i64 (q : Int)) ∧ w'.cell? ⟨bR, p, none⟩ = some (.int .i64 fp) ∧ w'.cell? ⟨bR, q, none⟩ = some (.int .i64 fq) ∧ w'.cell? ⟨b5, 0, none⟩ = some (.func (.yield l) #[] #[]) ∧ w'.cell? ⟨bT, 0, none⟩ = some (.int .i64 id) ∧ w'.cell? ⟨bT, 1, none⟩ = some (.int .i64 grp) ∧ w'.cell? ⟨bT, 2, none⟩ = some (.int .i64 wt) ∧ w'.cell? ⟨bT, 3, none⟩ = some (.int .i64 cpu) ∧ w'.cell? ⟨bT, 4, none⟩ = some (.int .u64 mask) ∧ w'.cell? ⟨bT, 5, none⟩ = some (.bool rdy) ∧ w'.cell? ⟨bT, 6, none⟩ = some (.int .u64 v) ∧ w'.cell? ⟨bT, 7, none⟩ = some (.int .u32 r)) 16 (by kernel_rfl) ?_
      have hS : Wb.drew.cell? ⟨bL, 0, none⟩ = some (.slice (some ⟨bR, 0, none⟩) lb lb) ∧ Wb.drew.cell? ⟨bF, 0, none⟩ = some (.int .i64 (p : Int)) ∧ Wb.drew.cell? ⟨bC, 0, none⟩ = some (.int .i64 (q : Int)) ∧ Wb.drew.cell? ⟨bR, p, none⟩ = some (.int .i64 fp) ∧ Wb.drew.cell? ⟨bR, q, none⟩ = some (.int .i64 fq) ∧ Wb.drew.cell? ⟨b5, 0, none⟩ = some (.func (.yield l) #[] #[]) ∧ Wb.drew.cell? ⟨bT, 0, none⟩ = some (.int .i64 id) ∧ Wb.drew.cell? ⟨bT, 1, none⟩ = some (.int .i64 grp) ∧ Wb.drew.cell? ⟨bT, 2, none⟩ = some (.int .i64 wt) ∧ Wb.drew.cell? ⟨bT, 3, none⟩ = some (.int .i64 cpu) ∧ Wb.drew.cell? ⟨bT, 4, none⟩ = some (.int .u64 mask) ∧ Wb.drew.cell? ⟨bT, 5, none⟩ = some (.bool rdy) ∧ Wb.drew.cell? ⟨bT, 6, none⟩ = some (.int .u64 v) ∧ Wb.drew.cell? ⟨bT, 7, none⟩ = some (.int .u32 r) := ⟨z0, z1, z2, z3, z4, z5, y0, y1, y2, y3, y4, y5, y6, y7⟩
      clear z0 z1 z2 z3 z4 z5 y0 y1 y2 y3 y4 y5 y6 y7 yl
      generalize hW5 : Wb.drew = w0 at *
      refine anyW_take 0 (v := ?_) rfl (fun _ => trivial) (by kernel_rfl) (by kernel_rfl) (by kernel_rfl) (by kernel_rfl) (by kernel_rfl) (by kernel_rfl) (by kernel_rfl) (fun _ _ _ h => h) (Or.inl ⟨by rfl, ?_⟩) (by assumption) ?_
      rotate_left
      · intro w hSw
        obtain ⟨_, _, _, _, _, _, _, _, _, _, _, _, _, _⟩ := hSw
        go_simp
        try with_reducible rfl
      simp only [Act.put, List.setIfInBounds_toArray, List.set_cons_zero, List.set_cons_succ]
      refine anyW_take 1 (v := ?_) rfl (fun _ => trivial) (by kernel_rfl) (by kernel_rfl) (by kernel_rfl) (by kernel_rfl) (by kernel_rfl) (by kernel_rfl) (by kernel_rfl) (fun _ _ _ h => h) (Or.inl ⟨by rfl, ?_⟩) (by assumption) ?_
      rotate_left
      · intro w hSw
        obtain ⟨_, _, _, _, _, _, _, _, _, _, _, _, _, _⟩ := hSw
        go_simp
        try with_reducible rfl
      simp only [Act.put, List.setIfInBounds_toArray, List.set_cons_zero, List.set_cons_succ]
      refine anyW_take 2 (v := ?_) rfl (fun _ => trivial) (by kernel_rfl) (by kernel_rfl) (by kernel_rfl) (by kernel_rfl) (by kernel_rfl) (by kernel_rfl) (by kernel_rfl) (fun _ _ _ h => h) (Or.inl ⟨by rfl, ?_⟩) (by assumption) ?_
      rotate_left
      · intro w hSw
        obtain ⟨_, _, _, _, _, _, _, _, _, _, _, _, _, _⟩ := hSw
        go_simp
        try with_reducible rfl
      simp only [Act.put, List.setIfInBounds_toArray, List.set_cons_zero, List.set_cons_succ]
      refine anyW_take 3 (v := ?_) rfl (fun _ => trivial) (by kernel_rfl) (by kernel_rfl) (by kernel_rfl) (by kernel_rfl) (by kernel_rfl) (by kernel_rfl) (by kernel_rfl) (fun _ _ _ h => h) (Or.inl ⟨by rfl, ?_⟩) (by assumption) ?_
      rotate_left
      · intro w hSw
        obtain ⟨_, _, _, _, _, _, _, _, _, _, _, _, _, _⟩ := hSw
        go_simp
        try with_reducible rfl
      simp only [Act.put, List.setIfInBounds_toArray, List.set_cons_zero, List.set_cons_succ]
      refine anyW_take 4 (v := ?_) rfl (fun _ => trivial) (by kernel_rfl) (by kernel_rfl) (by kernel_rfl) (by kernel_rfl) (by kernel_rfl) (by kernel_rfl) (by kernel_rfl) (fun _ _ _ h => h) (Or.inl ⟨by rfl, ?_⟩) (by assumption) ?_
      rotate_left
      · intro w hSw
        obtain ⟨_, _, _, _, _, _, _, _, _, _, _, _, _, _⟩ := hSw
        go_simp
        try with_reducible rfl
      simp only [Act.put, List.setIfInBounds_toArray, List.set_cons_zero, List.set_cons_succ]
      refine anyW_take 5 (v := ?_) rfl (fun _ => trivial) (by kernel_rfl) (by kernel_rfl) (by kernel_rfl) (by kernel_rfl) (by kernel_rfl) (by kernel_rfl) (by kernel_rfl) (fun _ _ _ h => h) (Or.inl ⟨by rfl, ?_⟩) (by assumption) ?_
      rotate_left
      · intro w hSw
        obtain ⟨_, _, _, _, _, _, _, _, _, _, _, _, _, _⟩ := hSw
        go_simp
        try with_reducible rfl
      simp only [Act.put, List.setIfInBounds_toArray, List.set_cons_zero, List.set_cons_succ]
      refine anyW_take 6 (v := ?_) rfl (fun _ => trivial) (by kernel_rfl) (by kernel_rfl) (by kernel_rfl) (by kernel_rfl) (by kernel_rfl) (by kernel_rfl) (by kernel_rfl) (fun _ _ _ h => h) (Or.inl ⟨by rfl, ?_⟩) (by assumption) ?_
      rotate_left
      · intro w hSw
        obtain ⟨_, _, _, _, _, _, _, _, _, _, _, _, _, _⟩ := hSw
        go_simp
        try with_reducible rfl
      simp only [Act.put, List.setIfInBounds_toArray, List.set_cons_zero, List.set_cons_succ]
      refine anyW_take 7 (v := ?_) rfl (fun _ => trivial) (by kernel_rfl) (by kernel_rfl) (by kernel_rfl) (by kernel_rfl) (by kernel_rfl) (by kernel_rfl) (by kernel_rfl) (fun _ _ _ h => h) (Or.inl ⟨by rfl, ?_⟩) (by assumption) ?_
      rotate_left
      · intro w hSw
        obtain ⟨_, _, _, _, _, _, _, _, _, _, _, _, _, _⟩ := hSw
        go_simp
        try with_reducible rfl
      simp only [Act.put, List.setIfInBounds_toArray, List.set_cons_zero, List.set_cons_succ]
      refine anyW_take 8 (v := ?_) rfl (fun _ => trivial) (by kernel_rfl) (by kernel_rfl) (by kernel_rfl) (by kernel_rfl) (by kernel_rfl) (by kernel_rfl) (by kernel_rfl) (fun _ _ _ h => h) (Or.inl ⟨by rfl, ?_⟩) (by assumption) ?_
      rotate_left
      · intro w hSw
        obtain ⟨_, _, _, _, _, _, _, _, _, _, _, _, _, _⟩ := hSw
        go_simp
        try with_reducible rfl
      simp only [Act.put, List.setIfInBounds_toArray, List.set_cons_zero, List.set_cons_succ]
      refine anyW_take 9 (v := ?_) rfl (fun _ => trivial) (by kernel_rfl) (by kernel_rfl) (by kernel_rfl) (by kernel_rfl) (by kernel_rfl) (by kernel_rfl) (by kernel_rfl) (fun _ _ _ h => h) (Or.inl ⟨by rfl, ?_⟩) (by assumption) ?_
      rotate_left
      · intro w hSw
        obtain ⟨_, _, _, _, _, _, _, _, _, _, _, _, _, _⟩ := hSw
        go_simp
        try with_reducible rfl
      simp only [Act.put, List.setIfInBounds_toArray, List.set_cons_zero, List.set_cons_succ]
      refine anyW_take 10 (v := ?_) rfl (fun _ => trivial) (by kernel_rfl) (by kernel_rfl) (by kernel_rfl) (by kernel_rfl) (by kernel_rfl) (by kernel_rfl) (by kernel_rfl) (fun _ _ _ h => h) (Or.inl ⟨by rfl, ?_⟩) (by assumption) ?_
      rotate_left
      · intro w hSw
        obtain ⟨_, _, _, _, _, _, _, _, _, _, _, _, _, _⟩ := hSw
        go_simp
        try with_reducible rfl
      simp only [Act.put, List.setIfInBounds_toArray, List.set_cons_zero, List.set_cons_succ]
      refine anyW_take 11 (v := ?_) rfl (fun _ => trivial) (by kernel_rfl) (by kernel_rfl) (by kernel_rfl) (by kernel_rfl) (by kernel_rfl) (by kernel_rfl) (by kernel_rfl) (fun _ _ _ h => h) (Or.inl ⟨by rfl, ?_⟩) (by assumption) ?_
      rotate_left
      · intro w hSw
        obtain ⟨_, _, _, _, _, _, _, _, _, _, _, _, _, _⟩ := hSw
        go_simp
        try with_reducible rfl
      simp only [Act.put, List.setIfInBounds_toArray, List.set_cons_zero, List.set_cons_succ]
      refine anyW_take 12 (v := ?_) rfl (fun _ => trivial) (by kernel_rfl) (by kernel_rfl) (by kernel_rfl) (by kernel_rfl) (by kernel_rfl) (by kernel_rfl) (by kernel_rfl) (fun _ _ _ h => h) (Or.inl ⟨by rfl, ?_⟩) (by assumption) ?_
      rotate_left
      · intro w hSw
        obtain ⟨_, _, _, _, _, _, _, _, _, _, _, _, _, _⟩ := hSw
        go_simp
        try with_reducible rfl
      simp only [Act.put, List.setIfInBounds_toArray, List.set_cons_zero, List.set_cons_succ]
      refine anyW_take 13 (v := ?_) rfl (fun _ => trivial) (by kernel_rfl) (by kernel_rfl) (by kernel_rfl) (by kernel_rfl) (by kernel_rfl) (by kernel_rfl) (by kernel_rfl) (fun _ _ _ h => h) (Or.inl ⟨by rfl, ?_⟩) (by assumption) ?_
      rotate_left
      · intro w hSw
        obtain ⟨_, _, _, _, _, _, _, _, _, _, _, _, _, _⟩ := hSw
        go_simp
        try with_reducible rfl
      simp only [Act.put, List.setIfInBounds_toArray, List.set_cons_zero, List.set_cons_succ]
      refine anyW_take 14 (v := ?_) rfl (fun _ => trivial) (by kernel_rfl) (by kernel_rfl) (by kernel_rfl) (by kernel_rfl) (by kernel_rfl) (by kernel_rfl) (by kernel_rfl) (fun _ _ _ h => h) (Or.inl ⟨by rfl, ?_⟩) (by assumption) ?_
      rotate_left
      · intro w hSw
        obtain ⟨_, _, _, _, _, _, _, _, _, _, _, _, _, _⟩ := hSw
        go_simp
        try with_reducible rfl
      simp only [Act.put, List.setIfInBounds_toArray, List.set_cons_zero, List.set_cons_succ]
      refine anyW_take 15 (v := ?_) rfl (fun _ => trivial) (by kernel_rfl) (by kernel_rfl) (by kernel_rfl) (by kernel_rfl) (by kernel_rfl) (by kernel_rfl) (by kernel_rfl) (fun _ _ _ h => h) (Or.inl ⟨by rfl, ?_⟩) (by assumption) ?_
      rotate_left
      · intro w hSw
        obtain ⟨_, _, _, _, _, _, _, _, _, _, _, _, _, _⟩ := hSw
        go_simp
        try with_reducible rfl
      simp only [Act.put, List.setIfInBounds_toArray, List.set_cons_zero, List.set_cons_succ]
      have hrest := Lib.hid (HLM.out.trans hyes.1)
      have HY2 := Lib.hid hyes.2
      clear hyes
      obtain ⟨fn, tmps, assign, body, hy, hR⟩ := HY.out _ _ _ hrest.out w0 ws HJ1.out
      try dsimp only at hy
      refine anyW_one 16 rfl (by kernel_rfl) (by rfl) ?_
      go_simp
      refine (roundIn_wide hR).mono ?_
      have hW0s : W0.heap.size ≤ w0.heap.size := HI7.out.size
      rintro e2 W2 ⟨⟨rfl, hj2⟩ | ⟨rfl, hj2⟩, hk2⟩
      · dsimp only
        refine anyW_one 17 rfl (by kernel_rfl) (by rfl) ?_
        go_simp
        refine anyW_one 18 rfl (by kernel_rfl) (by rfl) ?_
        go_simp
        refine anyW_done (by kernel_rfl) ?_
        gi_wp2
        exact ⟨HK.out.trans hk2.swap, by rw [HY2.out]; exact hj2, H5.out.kx hk2 (Or.inr (Nat.zero_le _)) (Or.inr (by rw [hb5'.out]; exact Nat.le_refl _)), HI7.out.trans (hk2.kp hW0s (Or.inl (Nat.le_refl _)) (Or.inr (Nat.le_refl _))), Nat.le_trans ws hk2.size⟩
      · dsimp only
        refine anyW_one 17 rfl (by kernel_rfl) (by rfl) ?_
        go_simp
        refine anyW_one 18 rfl (by kernel_rfl) (by rfl) ?_
        go_simp
        refine anyW_done (by kernel_rfl) ?_
        gi_wp2
        exact ⟨HK.out.trans hk2.swap, _, _, ⟨_, hrest.out⟩, hj2⟩
    · have hno := Lib.hid (HNO.out (by rw [HX1.out]; exact decide_eq_false hle))
      have hde : decide (2 * wt ≤ fp - fq) = false := decide_eq_false hle
      clear hle
      gi_wp2
      refine wp_region_anyW (fun w' => w'.cell? ⟨bL, 0, none⟩ = some (.slice (some ⟨bR, 0, none⟩) lb lb) ∧ w'.cell? ⟨bF, 0, none⟩ = some (.int .i64 (p : Int)) ∧ w'.cell? ⟨bC, 0, none⟩ = some (.int .i64 (q : Int)) ∧ w'.cell? ⟨bR, p, none⟩ = some (.int .i64 fp) ∧ w'.cell? ⟨bR, q, none⟩ = some (.int .i64 fq) ∧ w'.cell? ⟨b5, 0, none⟩ = some (.func (.yield l) #[] #[]) ∧ w'.cell? ⟨bT, 0, none⟩ = some (.int .i64 id) ∧ w'.cell? ⟨bT, 1, none⟩ = some (.int .i64 grp) ∧ w'.cell? ⟨bT, 2, none⟩ = some (.int .i64 wt) ∧ w'.cell? ⟨bT, 3, none⟩ = some (.int .i64 cpu) ∧ w'.cell? ⟨bT, 4, none⟩ = some (.int .u64 mask) ∧ w'.cell? ⟨bT, 5, none⟩ = some (.bool rdy) ∧ w'.cell? ⟨bT, 6, none⟩ = some (.int .u64 v) ∧ w'.cell? ⟨bT, 7, none⟩ = some (.int .u32 r)) 19 (by kernel_rfl) ?_
      have hS : Wb.drew.cell? ⟨bL, 0, none⟩ = some (.slice (some ⟨bR, 0, none⟩) lb lb) ∧ Wb.drew.cell? ⟨bF, 0, none⟩ = some (.int .i64 (p : Int)) ∧ Wb.drew.cell? ⟨bC, 0, none⟩ = some (.int .i64 (q : Int)) ∧ Wb.drew.cell? ⟨bR, p, none⟩ = some (.int .i64 fp) ∧ Wb.drew.cell? ⟨bR, q, none⟩ = some (.int .i64 fq) ∧ Wb.drew.cell? ⟨b5, 0, none⟩ = some (.func (.yield l) #[] #[]) ∧ Wb.drew.cell? ⟨bT, 0, none⟩ = some (.int .i64 id) ∧ Wb.drew.cell? ⟨bT, 1, none⟩ = some (.int .i64 grp) ∧ Wb.drew.cell? ⟨bT, 2, none⟩ = some (.int .i64 wt) ∧ Wb.drew.cell? ⟨bT, 3, none⟩ = some (.int .i64 cpu) ∧ Wb.drew.cell? ⟨bT, 4, none⟩ = some (.int .u64 mask) ∧ Wb.drew.cell? ⟨bT, 5, none⟩ = some (.bool rdy) ∧ Wb.drew.cell? ⟨bT, 6, none⟩ = some (.int .u64 v) ∧ Wb.drew.cell? ⟨bT, 7, none⟩ = some (.int .u32 r) := ⟨z0, z1, z2, z3, z4, z5, y0, y1, y2, y3, y4, y5, y6, y7⟩
      clear z0 z1 z2 z3 z4 z5 y0 y1 y2 y3 y4 y5 y6 y7 yl
      generalize hW5 : Wb.drew = w0 at *
      refine anyW_take 0 (v := ?_) rfl (fun _ => trivial) (by kernel_rfl) (by kernel_rfl) (by kernel_rfl) (by kernel_rfl) (by kernel_rfl) (by kernel_rfl) (by kernel_rfl) (fun _ _ _ h => h) (Or.inl ⟨by rfl, ?_⟩) (by assumption) ?_
      rotate_left
      · intro w hSw
        obtain ⟨_, _, _, _, _, _, _, _, _, _, _, _, _, _⟩ := hSw
        go_simp
        try with_reducible rfl
      simp only [Act.put, List.setIfInBounds_toArray, List.set_cons_zero, List.set_cons_succ]
      refine anyW_take 1 (v := ?_) rfl (fun _ => trivial) (by kernel_rfl) (by kernel_rfl) (by kernel_rfl) (by kernel_rfl) (by kernel_rfl) (by kernel_rfl) (by kernel_rfl) (fun _ _ _ h => h) (Or.inl ⟨by rfl, ?_⟩) (by assumption) ?_
      rotate_left
      · intro w hSw
        obtain ⟨_, _, _, _, _, _, _, _, _, _, _, _, _, _⟩ := hSw
        go_simp
        try with_reducible rfl
      simp only [Act.put, List.setIfInBounds_toArray, List.set_cons_zero, List.set_cons_succ]
      refine anyW_take 2 (v := ?_) rfl (fun _ => trivial) (by kernel_rfl) (by kernel_rfl) (by kernel_rfl) (by kernel_rfl) (by kernel_rfl) (by kernel_rfl) (by kernel_rfl) (fun _ _ _ h => h) (Or.inl ⟨by rfl, ?_⟩) (by assumption) ?_
      rotate_left
      · intro w hSw
        obtain ⟨_, _, _, _, _, _, _, _, _, _, _, _, _, _⟩ := hSw
        go_simp
        try with_reducible rfl
      simp only [Act.put, List.setIfInBounds_toArray, List.set_cons_zero, List.set_cons_succ]
      refine anyW_take 3 (v := ?_) rfl (fun _ => trivial) (by kernel_rfl) (by kernel_rfl) (by kernel_rfl) (by kernel_rfl) (by kernel_rfl) (by kernel_rfl) (by kernel_rfl) (fun _ _ _ h => h) (Or.inl ⟨by rfl, ?_⟩) (by assumption) ?_
      rotate_left
      · intro w hSw
        obtain ⟨_, _, _, _, _, _, _, _, _, _, _, _, _, _⟩ := hSw
        go_simp
        try with_reducible rfl
      simp only [Act.put, List.setIfInBounds_toArray, List.set_cons_zero, List.set_cons_succ]
      refine anyW_take 4 (v := ?_) rfl (fun _ => trivial) (by kernel_rfl) (by kernel_rfl) (by kernel_rfl) (by kernel_rfl) (by kernel_rfl) (by kernel_rfl) (by kernel_rfl) (fun _ _ _ h => h) (Or.inl ⟨by rfl, ?_⟩) (by assumption) ?_
      rotate_left
      · intro w hSw
        obtain ⟨_, _, _, _, _, _, _, _, _, _, _, _, _, _⟩ := hSw
        go_simp
        try with_reducible rfl
      simp only [Act.put, List.setIfInBounds_toArray, List.set_cons_zero, List.set_cons_succ]
      refine anyW_take 5 (v := ?_) rfl (fun _ => trivial) (by kernel_rfl) (by kernel_rfl) (by kernel_rfl) (by kernel_rfl) (by kernel_rfl) (by kernel_rfl) (by kernel_rfl) (fun _ _ _ h => h) (Or.inl ⟨by rfl, ?_⟩) (by assumption) ?_
      rotate_left
      · intro w hSw
        obtain ⟨_, _, _, _, _, _, _, _, _, _, _, _, _, _⟩ := hSw
        go_simp
        try with_reducible rfl
      simp only [Act.put, List.setIfInBounds_toArray, List.set_cons_zero, List.set_cons_succ]
      refine anyW_take 6 (v := ?_) rfl (fun _ => trivial) (by kernel_rfl) (by kernel_rfl) (by kernel_rfl) (by kernel_rfl) (by kernel_rfl) (by kernel_rfl) (by kernel_rfl) (fun _ _ _ h => h) (Or.inl ⟨by rfl, ?_⟩) (by assumption) ?_
      rotate_left
      · intro w hSw
        obtain ⟨_, _, _, _, _, _, _, _, _, _, _, _, _, _⟩ := hSw
        go_simp
        try with_reducible rfl
      simp only [Act.put, List.setIfInBounds_toArray, List.set_cons_zero, List.set_cons_succ]
      refine anyW_take 7 (v := ?_) rfl (fun _ => trivial) (by kernel_rfl) (by kernel_rfl) (by kernel_rfl) (by kernel_rfl) (by kernel_rfl) (by kernel_rfl) (by kernel_rfl) (fun _ _ _ h => h) (Or.inl ⟨by rfl, ?_⟩) (by assumption) ?_
      rotate_left
      · intro w hSw
        obtain ⟨_, _, _, _, _, _, _, _, _, _, _, _, _, _⟩ := hSw
        go_simp
        try with_reducible rfl
      simp only [Act.put, List.setIfInBounds_toArray, List.set_cons_zero, List.set_cons_succ]
      refine anyW_take 8 (v := ?_) rfl (fun _ => trivial) (by kernel_rfl) (by kernel_rfl) (by kernel_rfl) (by kernel_rfl) (by kernel_rfl) (by kernel_rfl) (by kernel_rfl) (fun _ _ _ h => h) (Or.inl ⟨by rfl, ?_⟩) (by assumption) ?_
      rotate_left
      · intro w hSw
        obtain ⟨_, _, _, _, _, _, _, _, _, _, _, _, _, _⟩ := hSw
        go_simp
        try with_reducible rfl
      simp only [Act.put, List.setIfInBounds_toArray, List.set_cons_zero, List.set_cons_succ]
      refine anyW_take 9 (v := ?_) rfl (fun _ => trivial) (by kernel_rfl) (by kernel_rfl) (by kernel_rfl) (by kernel_rfl) (by kernel_rfl) (by kernel_rfl) (by kernel_rfl) (fun _ _ _ h => h) (Or.inl ⟨by rfl, ?_⟩) (by assumption) ?_
      rotate_left
      · intro w hSw
        obtain ⟨_, _, _, _, _, _, _, _, _, _, _, _, _, _⟩ := hSw
        go_simp
        try with_reducible rfl
      simp only [Act.put, List.setIfInBounds_toArray, List.set_cons_zero, List.set_cons_succ]
      refine anyW_take 10 (v := ?_) rfl (fun _ => trivial) (by kernel_rfl) (by kernel_rfl) (by kernel_rfl) (by kernel_rfl) (by kernel_rfl) (by kernel_rfl) (by kernel_rfl) (fun _ _ _ h => h) (Or.inl ⟨by rfl, ?_⟩) (by assumption) ?_
      rotate_left
      · intro w hSw
        obtain ⟨_, _, _, _, _, _, _, _, _, _, _, _, _, _⟩ := hSw
        go_simp
        try with_reducible rfl
      simp only [Act.put, List.setIfInBounds_toArray, List.set_cons_zero, List.set_cons_succ]
      refine anyW_take 11 (v := ?_) rfl (fun _ => trivial) (by kernel_rfl) (by kernel_rfl) (by kernel_rfl) (by kernel_rfl) (by kernel_rfl) (by kernel_rfl) (by kernel_rfl) (fun _ _ _ h => h) (Or.inl ⟨by rfl, ?_⟩) (by assumption) ?_
      rotate_left
      · intro w hSw
        obtain ⟨_, _, _, _, _, _, _, _, _, _, _, _, _, _⟩ := hSw
        go_simp
        try with_reducible rfl
      simp only [Act.put, List.setIfInBounds_toArray, List.set_cons_zero, List.set_cons_succ]
      refine anyW_take 12 (v := ?_) rfl (fun _ => trivial) (by kernel_rfl) (by kernel_rfl) (by kernel_rfl) (by kernel_rfl) (by kernel_rfl) (by kernel_rfl) (by kernel_rfl) (fun _ _ _ h => h) (Or.inl ⟨by rfl, ?_⟩) (by assumption) ?_
      rotate_left
      · intro w hSw
        obtain ⟨_, _, _, _, _, _, _, _, _, _, _, _, _, _⟩ := hSw
        go_simp
        try with_reducible rfl
      simp only [Act.put, List.setIfInBounds_toArray, List.set_cons_zero, List.set_cons_succ]
      refine anyW_take 13 (v := ?_) rfl (fun _ => trivial) (by kernel_rfl) (by kernel_rfl) (by kernel_rfl) (by kernel_rfl) (by kernel_rfl) (by kernel_rfl) (by kernel_rfl) (fun _ _ _ h => h) (Or.inl ⟨by rfl, ?_⟩) (by assumption) ?_
      rotate_left
      · intro w hSw
        obtain ⟨_, _, _, _, _, _, _, _, _, _, _, _, _, _⟩ := hSw
        go_simp
        try with_reducible rfl
      simp only [Act.put, List.setIfInBounds_toArray, List.set_cons_zero, List.set_cons_succ]
      refine anyW_take 14 (v := undef) rfl (fun _ => trivial) (by kernel_rfl) (by kernel_rfl) (by kernel_rfl) (by kernel_rfl) (by kernel_rfl) (by kernel_rfl) (by kernel_rfl) (fun _ _ _ h => h) (Or.inr ⟨by rfl, rfl⟩) (by assumption) ?_
      simp only [Act.put, List.setIfInBounds_toArray, List.set_cons_zero, List.set_cons_succ]
      refine anyW_take 15 (v := undef) rfl (fun _ => trivial) (by kernel_rfl) (by kernel_rfl) (by kernel_rfl) (by kernel_rfl) (by kernel_rfl) (by kernel_rfl) (by kernel_rfl) (fun _ _ _ h => h) (Or.inr ⟨by rfl, rfl⟩) (by assumption) ?_
      simp only [Act.put, List.setIfInBounds_toArray, List.set_cons_zero, List.set_cons_succ]
      refine anyW_take 16 (v := undef) rfl (fun _ => trivial) (by kernel_rfl) (by kernel_rfl) (by kernel_rfl) (by kernel_rfl) (by kernel_rfl) (by kernel_rfl) (by kernel_rfl) (fun _ _ _ h => h) (Or.inr ⟨by rfl, rfl⟩) (by assumption) ?_
      simp only [Act.put, List.setIfInBounds_toArray, List.set_cons_zero, List.set_cons_succ]
      refine anyW_take 17 (v := undef) rfl (fun _ => trivial) (by kernel_rfl) (by kernel_rfl) (by kernel_rfl) (by kernel_rfl) (by kernel_rfl) (by kernel_rfl) (by kernel_rfl) (fun _ _ _ h => h) (Or.inr ⟨by rfl, rfl⟩) (by assumption) ?_
      simp only [Act.put, List.setIfInBounds_toArray, List.set_cons_zero, List.set_cons_succ]
      refine anyW_take 18 (v := ?_) rfl (fun _ => trivial) (by kernel_rfl) (by kernel_rfl) (by kernel_rfl) (by kernel_rfl) (by kernel_rfl) (by kernel_rfl) (by kernel_rfl) (fun _ _ _ h => h) (Or.inl ⟨by rfl, ?_⟩) (by assumption) ?_
      rotate_left
      · intro w hSw
        obtain ⟨_, _, _, _, _, _, _, _, _, _, _, _, _, _⟩ := hSw
        go_simp
        try with_reducible rfl
      simp only [Act.put, List.setIfInBounds_toArray, List.set_cons_zero, List.set_cons_succ]
      refine anyW_done (by kernel_rfl) ?_
      gi_wp2
      exact ⟨HK.out, by rw [hno.out]; exact HJ1.out, H5.out, HI7.out, ws⟩
end Go.Proofs.Yticgdfbknaholaa
