/-
  The contract of the law's own same: two scenes, the program's and the reference's.
-/
import Derived.Test.YticgdfbknaholaaEqualT27
namespace Go.Proofs.Yticgdfbknaholaa
open Go.RowKit

/-- Two scenes are equal. -/
def sameS (s s' : Sc) : Bool := decide (s.n = s'.n) && (decide (s.ts = s'.ts) && decide (s.cur = s'.cur))
theorem sameS_self (s : Sc) : sameS s s = true := by simp [sameS]
set_option maxRecDepth 100000 in
set_option maxHeartbeats 1000000 in
theorem sameSc_any (W : World) {A B A' B' : Option Addr} {la ca lb cb la' ca' lb' cb' : Nat} {s s' : Sc} (h : ScAt W A la B lb s) (h' : ScAt W A' la' B' lb' s') (h1 : la ≤ 3000000000000000000) (h2 : la' ≤ 3000000000000000000) (h3 : lb ≤ 3000000000000000000) (h4 : lb' ≤ 3000000000000000000) :
    Calls Try.prog 49 #[.agg #[.int .i64 s.n, .slice A la ca, .slice B lb cb], .agg #[.int .i64 s'.n, .slice A' la' ca', .slice B' lb' cb']] W fun e w' => e = .returned (.bool (sameS s s')) ∧ Kp W.heap.size W w' := by
  have HT := fun w (k : Kp W.heap.size W w) => Lib.hid (equalT_any (c := ca) (d := ca') w h.hla h'.hla h1 h2 (h.ts.kp k) (h'.ts.kp k))
  have HI := fun w (k : Kp W.heap.size W w) => Lib.hid (equalI_any (c := cb) (d := cb') w h.hlb h'.hlb h3 h4 (h.cur.below k) (h'.cur.below k))
  have k1 := (Kp.refl W.heap.size W).alloc (Nat.le_refl _) (.cells #[.int .i64 s.n, .slice A la ca, .slice B lb cb] 30)
  have k2 := k1.alloc (by simp) (.cells #[.int .i64 s'.n, .slice A' la' ca', .slice B' lb' cb'] 83)
  have hx := (C3.new W (.int .i64 s.n) (.slice A la ca) (.slice B lb cb) 30).alloc (.cells #[.int .i64 s'.n, .slice A' la' ca', .slice B' lb' cb'] 83)
  have hy := C3.new (W.alloc (.cells #[.int .i64 s.n, .slice A la ca, .slice B lb cb] 30)) (.int .i64 s'.n) (.slice A' la' ca') (.slice B' lb' cb') 83
  simp only [World.size_alloc] at hy
  have HX := Lib.hid hx
  have HY := Lib.hid hy
  have HK := Lib.hid k2
  clear h h' k1 k2 hx hy h1 h2 h3 h4
  obtain ⟨n, ts, cur⟩ := s
  obtain ⟨n', ts', cur'⟩ := s'
  dsimp only [sameS] at *
  obtain ⟨b1, hb1⟩ : ∃ b, b = decide (ts = ts') := ⟨_, rfl⟩
  obtain ⟨b2, hb2⟩ : ∃ b, b = decide (cur = cur') := ⟨_, rfl⟩
  rw [← hb1, ← hb2]
  obtain ⟨R, hR⟩ : ∃ R, R = (decide (n = n') && (b1 && b2)) := ⟨_, rfl⟩
  rw [← hR]
  have HR := Lib.hid hR
  clear hR
  simp only [← hb1] at HT
  simp only [← hb2] at HI
  clear hb1 hb2
  go_enter Try.func49, Try.ntmps49
  go_upto_region 1 with fail
  generalize (W.alloc _).alloc _ = w1 at *
  obtain ⟨bS, hbS⟩ : ∃ b, b = W.heap.size := ⟨_, rfl⟩
  obtain ⟨bT, hbT⟩ : ∃ b, b = W.heap.size + 1 := ⟨_, rfl⟩
  rw [← hbS] at HX
  rw [← hbT] at HY
  rw [← hbT, ← hbS]
  clear hbS hbT
  obtain ⟨x0, x1, x2, xl⟩ := HX.out
  obtain ⟨y0, y1, y2, yl⟩ := HY.out
  by_cases hn : n = n'
  rotate_left
  · have hn1 : (n == n') = false := beq_eq_false_iff_ne.2 hn
    have hn2 : decide (n = n') = false := decide_eq_false hn
    have HF := Lib.hid (HR.out.trans (by rw [hn2, Bool.false_and]))
    clear HT HI hn hn2 HR
    go_wp2_with fail
    go_ret
    exact ⟨by rw [HF.out]; rfl, HK.out⟩
  subst hn
  have HF := Lib.hid (HR.out.trans (by rw [decide_eq_true rfl, Bool.true_and]))
  clear HR
  go_wp2_with fail
  (with_reducible refine (HT _ HK.out).out.mono ?_)
  clear x0 x1 x2 xl y0 y1 y2 yl HT
  rintro e w2 ⟨rfl, md, rfl⟩
  have kd : Kp w1.heap.size w1 (w1.drewN md) := (Kp.refl _ _).drewN md
  have HK2 := Lib.hid (HK.out.trans (kd.mono HK.out.size))
  have HX2 := Lib.hid (HX.out.kp kd)
  have HY2 := Lib.hid (HY.out.kp kd)
  clear kd HX HY HK
  generalize w1.drewN md = w2 at *
  obtain ⟨x0, x1, x2, xl⟩ := HX2.out
  obtain ⟨y0, y1, y2, yl⟩ := HY2.out
  cases b1
  · clear HI
    go_wp2_with fail
    go_ret
    exact ⟨by rw [HF.out]; rfl, HK2.out⟩
  go_wp2_with fail
  (with_reducible refine (HI _ HK2.out).out.mono ?_)
  clear x0 x1 x2 xl y0 y1 y2 yl HI
  rintro e w3 ⟨rfl, md, rfl⟩
  have HK3 := Lib.hid (HK2.out.drewN md)
  generalize w2.drewN md = w3 at *
  go_wp2_with fail
  go_ret
  exact ⟨by rw [HF.out]; rfl, HK3.out⟩
end Go.Proofs.Yticgdfbknaholaa
