/-
  The contract of Pull.
-/
import Derived.Test.YticgdfbknaholaaBestT27
namespace Go.Proofs.Yticgdfbknaholaa
open Go.RowKit

/-- What a CPU pulls from another one. -/
def pullT (s : Sc) (p q : Nat) : Option Tk := bestT (lightL s (loadV s.ts) p q)
def pullV (s : Sc) (cpu : Int) : (Int × Int × Int) × Int :=
  if busyE s cpu = 0 then match pullT s (busyN s cpu).toNat cpu.toNat with
    | none => ((0, 0, 0), 6)
    | some t => ((t.id, busyN s cpu, cpu), 0)
  else ((0, 0, 0), busyE s cpu)
theorem busy_ok {s : Sc} {cpu : Int} (h : busyE s cpu = 0) : rightS s = true ∧ 0 ≤ cpu ∧ cpu < s.n ∧ ∃ p : Nat, busyN s cpu = (p : Int) ∧ p < s.cur.length ∧ (p : Int) ≠ cpu := by
  unfold busyE at h
  split at h
  · rename_i hr
    split at h
    · rename_i hc
      split at h
      · rename_i ho
        refine ⟨hr, hc.1, hc.2, ?_⟩
        obtain ⟨y, hy⟩ := Option.isSome_iff_exists.1 ho
        have hy2 := bestI_mem (loadV s.ts) _ (fun c => c < s.cur.length ∧ (c : Int) ≠ cpu) (fun c hc => othersL_lt hc) y hy
        exact ⟨y, by unfold busyN; rw [if_pos hr, if_pos hc, hy]; rfl, hy2.1, hy2.2⟩
      · cases h
    · cases h
  · cases h
theorem loadV_ok {s : Sc} (h : s.fit) (c : Nat) : 0 ≤ loadV s.ts c ∧ loadV s.ts c ≤ 4294967296 := by
  obtain ⟨h1, h2⟩ := loadV_bd c h.each
  have := h.len
  omega
set_option maxRecDepth 100000 in
set_option maxHeartbeats 2000000 in
theorem pull_any (W : World) {A B : Option Addr} {la ca lb cb : Nat} {s : Sc} {cpu : Int} (h : ScAt W A la B lb s) :
    Calls Try.prog 21 #[.agg #[.int .i64 s.n, .slice A la ca, .slice B lb cb], .int .i64 cpu] W fun e w' =>
      e = .returned (.tuple #[.agg #[.int .i64 (pullV s cpu).1.1, .int .i64 (pullV s cpu).1.2.1, .int .i64 (pullV s cpu).1.2.2], .int .i64 (pullV s cpu).2]) ∧ Kp W.heap.size W w' := by
  have HB := fun w (k : Kp W.heap.size W w) => Lib.hid (busiest_any (ca := ca) (cb := cb) (cpu := cpu) w (h.kp k))
  have HSC := fun w (k : Kp W.heap.size W w) => Lib.hid (h.kp k)
  have hlb := h.hlb
  obtain ⟨rV, hV⟩ : ∃ v, v = pullV s cpu := ⟨_, rfl⟩
  rw [← hV]
  have K0 := Lib.hid ((((Kp.refl W.heap.size W).alloc (Nat.le_refl _) (.cells #[.int .i64 s.n, .slice A la ca, .slice B lb cb] 30)).alloc (by rw [World.size_alloc]; omega) (.cells #[.int .i64 cpu] 3)).alloc (by rw [World.size_alloc, World.size_alloc]; omega) (.cells #[.int .i64 0, .int .i64 0, .int .i64 0] 38))
  have HX := Lib.hid (((C3.new W (.int .i64 s.n) (.slice A la ca) (.slice B lb cb) 30).alloc (.cells #[.int .i64 cpu] 3)).alloc (.cells #[.int .i64 0, .int .i64 0, .int .i64 0] 38))
  have HY0 := (Bx.new (W.alloc (.cells #[.int .i64 s.n, .slice A la ca, .slice B lb cb] 30)) (.int .i64 cpu) 3).alloc (.cells #[.int .i64 0, .int .i64 0, .int .i64 0] 38)
  have HM0 := C3.new ((W.alloc (.cells #[.int .i64 s.n, .slice A la ca, .slice B lb cb] 30)).alloc (.cells #[.int .i64 cpu] 3)) (.int .i64 0) (.int .i64 0) (.int .i64 0) 38
  have HZ0 := Fz.new ((W.alloc (.cells #[.int .i64 s.n, .slice A la ca, .slice B lb cb] 30)).alloc (.cells #[.int .i64 cpu] 3)) #[.int .i64 0, .int .i64 0, .int .i64 0] 38
  simp only [World.size_alloc, Nat.add_assoc, Nat.reduceAdd] at HY0 HM0 HZ0
  have HY := Lib.hid HY0
  have HM := Lib.hid HM0
  have HZ := Lib.hid HZ0
  have HV := Lib.hid hV
  have HOK := Lib.hid (fun (h : busyE s cpu = 0) => busy_ok h)
  have HPV := Lib.hid (show pullV s cpu = if busyE s cpu = 0 then match pullT s (busyN s cpu).toNat cpu.toNat with
    | none => ((0, 0, 0), 6)
    | some t => ((t.id, busyN s cpu, cpu), 0)
  else ((0, 0, 0), busyE s cpu) from rfl)
  have HFIT := Lib.hid (fun (h : rightS s = true) => (rightS_iff s).1 h)
  clear HY0 HM0 HZ0 hV h
  generalize hN : busyN s cpu = yN at *
  generalize hE : busyE s cpu = yE at *
  clear hN hE
  obtain ⟨n, ts, cur⟩ := s
  dsimp only at *
  go_enter Try.func21, Try.ntmps21
  go_upto_region 1 with fail
  generalize ((W.alloc _).alloc _).alloc _ = w1 at *
  obtain ⟨bS, hbS⟩ : ∃ b, b = W.heap.size := ⟨_, rfl⟩
  obtain ⟨bC, hbC⟩ : ∃ b, b = W.heap.size + 1 := ⟨_, rfl⟩
  obtain ⟨bM, hbM⟩ : ∃ b, b = W.heap.size + 2 := ⟨_, rfl⟩
  rw [← hbC] at HY
  rw [← hbS] at HX
  rw [← hbM] at HM HZ
  rw [show W.heap.size + 1 + 1 = bM by omega, ← hbC, ← hbS]
  have dSM : bS ≠ bM := by omega
  have dCM : bC ≠ bM := by omega
  have WM : W.heap.size ≤ bM := by omega
  clear hbS hbC hbM
  obtain ⟨x0, x1, x2, xl⟩ := HX.out
  have y0 := HY.out.cell
  have yl := HY.out.lt
  go_wp2_with fail
  (with_reducible refine (HB _ K0.out).out.mono ?_)
  clear x0 x1 x2 xl y0 yl
  rintro e w2 ⟨rfl, hk⟩
  have K1 := Lib.hid (K0.out.trans (hk.mono K0.out.size))
  have HX2 := Lib.hid (HX.out.kp hk)
  have HY2 := Lib.hid (HY.out.kps hk)
  have HM2 := Lib.hid (HM.out.kp hk)
  have HZ2 := Lib.hid (HZ.out.kp hk)
  clear hk K0 HX HY HM HZ HB
  go_upto_region 2 with fail
  have HF := Lib.hid (Bx.new w2 (.int .i64 yN) 3)
  have HX3 := Lib.hid (HX2.out.alloc (.cells #[.int .i64 yN] 3))
  have HY3 := Lib.hid (HY2.out.alloc (.cells #[.int .i64 yN] 3))
  have HM3 := Lib.hid (HM2.out.alloc (.cells #[.int .i64 yN] 3))
  have HZ3 := Lib.hid (HZ2.out.alloc (.cells #[.int .i64 yN] 3))
  have K2 := Lib.hid (K1.out.alloc K1.out.size (.cells #[.int .i64 yN] 3))
  generalize w2.alloc _ = w3 at *
  obtain ⟨bF, hbF⟩ : ∃ b, b = w2.heap.size := ⟨_, rfl⟩
  have dFM : bF ≠ bM := by have := HM2.out.lt; omega
  rw [← hbF] at HF
  rw [← hbF]
  clear hbF HX2 HY2 HM2 HZ2 K1
  by_cases he : yE = 0
  rotate_left
  · have he2 : (yE != 0) = true := bne_iff_ne.2 he
    obtain ⟨m0, m1, m2, ml⟩ := HM3.out
    have mf := HZ3.out.2
    go_wp2_with fail
    have P := And.intro (HM3.out.set (.int .i64 0) (.int .i64 0) (.int .i64 0)) (((K2.out.setCell (p := ⟨bM, 0, none⟩) WM (.int .i64 0)).setCell (p := ⟨bM, 1, none⟩) WM (.int .i64 0)).setCell (p := ⟨bM, 2, none⟩) WM (.int .i64 0))
    clear m0 m1 m2 ml mf
    generalize World.setCell _ _ _ = w9 at *
    obtain ⟨⟨m0, m1, m2, ml⟩, K⟩ := P
    exact bodyPost_ret (v := .tuple #[.agg #[(.int .i64 0), (.int .i64 0), (.int .i64 0)], .int .i64 yE]) (by simp [results, Try.results21, go_sem, m0, m1, m2]) rfl ⟨by rw [HV.out, HPV.out, if_neg he], K⟩
  subst he
  obtain ⟨hr, hc0, hcn, p, rfl, hpl, hpc⟩ := HOK.out rfl
  have hf := HFIT.out hr
  have hcl := hf.cur
  have hn64 := hf.n64
  dsimp only at hcl hn64
  rw [hlb] at hpl hcl
  obtain ⟨q, rfl⟩ : ∃ q : Nat, cpu = (q : Int) := ⟨cpu.toNat, by omega⟩
  have hql : q < lb := by omega
  have HPV2 := Lib.hid (HPV.out.trans (if_pos rfl))
  rw [Int.toNat_natCast, Int.toNat_natCast] at HPV2
  have HL := fun w (k : Kp W.heap.size W w) => Lib.hid (loads_at (ca := ca) (cb := cb) (HSC w k).out hf)
  have HFI := Lib.hid hf
  have HLB := Lib.hid (fun c => loadV_ok hf c)
  clear HOK HFIT hf hr HPV hpc hc0 hcn hn64
  subst hcl
  obtain ⟨x0, x1, x2, xl⟩ := HX3.out
  go_wp2_with fail
  (with_reducible refine (HL _ K2.out).out.mono ?_)
  clear x0 x1 x2 xl
  rintro e w4 ⟨bR, rfl, hbR, hrow, hk⟩
  have K3 := Lib.hid (K2.out.trans (hk.mono K2.out.size))
  have HX4 := Lib.hid (HX3.out.kp hk)
  have HY4 := Lib.hid (HY3.out.kps hk)
  have HM4 := Lib.hid (HM3.out.kp hk)
  have HZ4 := Lib.hid (HZ3.out.kp hk)
  have HF4 := Lib.hid (HF.out.kps hk)
  have HR4 := Lib.hid hrow
  have dbm : bM < w4.heap.size := HM4.out.lt
  clear hk K2 HX3 HY3 HM3 HZ3 HF hbR hrow
  go_upto_region 5 with fail
  have HG := Lib.hid (Bx.new w4 (.slice (some ⟨bR, 0, none⟩) lb lb) 28)
  have HX5 := Lib.hid (HX4.out.alloc (.cells #[.slice (some ⟨bR, 0, none⟩) lb lb] 28))
  have HY5 := Lib.hid (HY4.out.alloc (.cells #[.slice (some ⟨bR, 0, none⟩) lb lb] 28))
  have HM5 := Lib.hid (HM4.out.alloc (.cells #[.slice (some ⟨bR, 0, none⟩) lb lb] 28))
  have HZ5 := Lib.hid (HZ4.out.alloc (.cells #[.slice (some ⟨bR, 0, none⟩) lb lb] 28))
  have HF5 := Lib.hid (HF4.out.alloc (.cells #[.slice (some ⟨bR, 0, none⟩) lb lb] 28))
  have HR5 := Lib.hid (HR4.out.kp ((Kp.refl _ w4).alloc (Nat.le_refl _) (.cells #[.slice (some ⟨bR, 0, none⟩) lb lb] 28)))
  have K4 := Lib.hid (K3.out.alloc K3.out.size (.cells #[.slice (some ⟨bR, 0, none⟩) lb lb] 28))
  generalize w4.alloc _ = w5 at *
  obtain ⟨bL, hbL⟩ : ∃ b, b = w4.heap.size := ⟨_, rfl⟩
  rw [← hbL] at HG
  rw [← hbL]
  clear hbL dbm HX4 HY4 HM4 HZ4 HF4 HR4 K3
  have HIT := light_iter (HSC w5 K4.out).out HFI.out HX5.out HF5.out HY5.out HG.out HR5.out hpl hql HLB.out
  have HBT := Lib.hid (bestT_any w5 HIT)
  clear HIT
  have HPT : bestT (lightL ⟨(lb : Int), ts, cur⟩ (loadV ts) p q) = pullT ⟨(lb : Int), ts, cur⟩ p q := rfl
  rw [HPT] at HBT
  clear HPT
  generalize pullT ⟨(lb : Int), ts, cur⟩ p q = o at *
  go_wp2_with fail
  (with_reducible refine HBT.out.mono ?_)
  rintro e w6 ⟨rfl, hk⟩
  have K5 := Lib.hid (K4.out.trans (hk.mono K4.out.size))
  have HM6 := Lib.hid (HM5.out.kp hk)
  have HZ6 := Lib.hid (HZ5.out.kp hk)
  have HF6 := Lib.hid (HF5.out.kps hk)
  have HY6 := Lib.hid (HY5.out.kps hk)
  clear hk K4 HM5 HZ5 HF5 HY5 HX5 HG HR5 HBT
  generalize hT : o.getD t0 = t at *
  have HT := Lib.hid hT
  clear hT
  obtain ⟨id, grp, wt, cpu2, mask, rdy, v, r⟩ := t
  go_upto_region 7 with fail
  have TT := Lib.hid (Tb.new w6 ⟨id, grp, wt, cpu2, mask, rdy, v, r⟩ 43)
  have HM7 := Lib.hid (HM6.out.alloc (.cells (tkc ⟨id, grp, wt, cpu2, mask, rdy, v, r⟩) 43))
  have HZ7 := Lib.hid (HZ6.out.alloc (.cells (tkc ⟨id, grp, wt, cpu2, mask, rdy, v, r⟩) 43))
  have HF7 := Lib.hid (HF6.out.alloc (.cells (tkc ⟨id, grp, wt, cpu2, mask, rdy, v, r⟩) 43))
  have HY7 := Lib.hid (HY6.out.alloc (.cells (tkc ⟨id, grp, wt, cpu2, mask, rdy, v, r⟩) 43))
  have K6 := Lib.hid (K5.out.alloc K5.out.size (.cells (tkc ⟨id, grp, wt, cpu2, mask, rdy, v, r⟩) 43))
  have dTM : w6.heap.size ≠ bM := by have := HM6.out.lt; omega
  dsimp only [tkc] at TT HM7 HZ7 HF7 HY7 K6
  generalize w6.alloc _ = w7 at *
  generalize w6.heap.size = bT at *
  clear HM6 HZ6 HF6 HY6 K5
  obtain ⟨m0, m1, m2, ml⟩ := HM7.out
  have mf := HZ7.out.2
  cases ho : o with
  | none =>
    rw [ho] at HPV2
    subst ho
    simp only [Option.isSome_none]
    go_wp2_with fail
    have P := And.intro (HM7.out.set (.int .i64 0) (.int .i64 0) (.int .i64 0)) (((K6.out.setCell (p := ⟨bM, 0, none⟩) WM (.int .i64 0)).setCell (p := ⟨bM, 1, none⟩) WM (.int .i64 0)).setCell (p := ⟨bM, 2, none⟩) WM (.int .i64 0))
    clear m0 m1 m2 ml mf
    generalize World.setCell _ _ _ = w9 at *
    obtain ⟨⟨m0, m1, m2, ml⟩, K⟩ := P
    exact bodyPost_ret (v := .tuple #[.agg #[(.int .i64 0), (.int .i64 0), (.int .i64 0)], .int .i64 6]) (by simp [results, Try.results21, go_sem, m0, m1, m2]) rfl ⟨by rw [HV.out, HPV2.out], K⟩
  | some t =>
    subst ho
    have ht : t = ⟨id, grp, wt, cpu2, mask, rdy, v, r⟩ := HT.out
    subst ht
    simp only [Option.isSome_some]
    obtain ⟨y0, y1, y2, y3, y4, y5, y6, y7, yl⟩ := TT.out.tk
    have f0 := HF7.out.cell
    have g0 := HY7.out.cell
    go_wp2_with fail
    have P := And.intro (HM7.out.set (.int .i64 id) (.int .i64 (p : Int)) (.int .i64 (q : Int))) (((K6.out.setCell (p := ⟨bM, 0, none⟩) WM (.int .i64 id)).setCell (p := ⟨bM, 1, none⟩) WM (.int .i64 (p : Int))).setCell (p := ⟨bM, 2, none⟩) WM (.int .i64 (q : Int)))
    clear m0 m1 m2 ml mf
    generalize World.setCell _ _ _ = w9 at *
    obtain ⟨⟨m0, m1, m2, ml⟩, K⟩ := P
    exact bodyPost_ret (v := .tuple #[.agg #[(.int .i64 id), (.int .i64 (p : Int)), (.int .i64 (q : Int))], .int .i64 0]) (by simp [results, Try.results21, go_sem, m0, m1, m2]) rfl ⟨by rw [HV.out, HPV2.out], K⟩
end Go.Proofs.Yticgdfbknaholaa
