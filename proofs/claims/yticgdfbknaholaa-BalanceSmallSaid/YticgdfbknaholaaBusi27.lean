/-
  The contracts of Loads and Busiest.
-/
import Derived.Test.YticgdfbknaholaaBusy27
namespace Go.Proofs.Yticgdfbknaholaa
open Go.RowKit

/-- A scene's parts in memory. -/
structure ScAt (w : World) (A : Option Addr) (la : Nat) (B : Option Addr) (lb : Nat) (s : Sc) : Prop where
  hla : s.ts.length = la
  hlb : s.cur.length = lb
  ts : IsTks w A la s.ts
  cur : IsInts w .i64 B lb s.cur
  ok : ∀ t ∈ s.ts, t.ok
  lam : la ≤ 3000000000000000000
  lbm : lb ≤ 3000000000000000000
theorem ScAt.kp {w w' : World} {A B : Option Addr} {la lb : Nat} {s : Sc} (h : ScAt w A la B lb s) (k : Kp w.heap.size w w') : ScAt w' A la B lb s :=
  ⟨h.hla, h.hlb, h.ts.kp k, h.cur.below k, h.ok, h.lam, h.lbm⟩
theorem right_at {W : World} {A B : Option Addr} {la ca lb cb : Nat} {s : Sc} (h : ScAt W A la B lb s) :
    Calls Try.prog 23 #[.agg #[.int .i64 s.n, .slice A la ca, .slice B lb cb]] W fun e w' => e = .returned (.bool (rightS s)) ∧ Kp W.heap.size W w' :=
  rights_any W h.hla h.hlb h.lam h.lbm h.ts h.cur h.ok
theorem loads_at {W : World} {A B : Option Addr} {la ca lb cb : Nat} {s : Sc} (h : ScAt W A la B lb s) (hf : s.fit) :
    Calls Try.prog 33 #[.agg #[.int .i64 s.n, .slice A la ca, .slice B lb cb]] W fun e w' => ∃ b, e = .returned (.slice (some ⟨b, 0, none⟩) lb lb) ∧ W.heap.size ≤ b ∧ Row w' b lb (fun c => .int .i64 (loadV s.ts c)) ∧ Kp W.heap.size W w' :=
  loads_any W h.hla h.hlb h.ts hf
/-- The busiest of the others, as Busiest tells it. -/
def busyN (s : Sc) (cpu : Int) : Int := if rightS s then if 0 ≤ cpu ∧ cpu < s.n then (((bestI (loadV s.ts) (othersL s.cur.length cpu)).getD 0 : Nat) : Int) else 0 else 0
def busyE (s : Sc) (cpu : Int) : Int := if rightS s then if 0 ≤ cpu ∧ cpu < s.n then if (bestI (loadV s.ts) (othersL s.cur.length cpu)).isSome then 0 else 6 else 2 else 270
theorem loadsF_any (W : World) {A B : Option Addr} {la ca lb cb : Nat} {s : Sc} (h : ScAt W A la B lb s) (hr : rightS s = true) :
    Calls Try.prog 16 #[.agg #[.int .i64 s.n, .slice A la ca, .slice B lb cb]] W fun e w' => ∃ b, e = .returned (.tuple #[.slice (some ⟨b, 0, none⟩) lb lb, .int .i64 0]) ∧ W.heap.size ≤ b ∧ Row w' b lb (fun c => .int .i64 (loadV s.ts c)) ∧ Kp W.heap.size W w' := by
  have HR := fun w (k : Kp W.heap.size W w) => Lib.hid (right_at (ca := ca) (cb := cb) (h.kp k))
  rw [hr] at HR
  have HL := fun w (k : Kp W.heap.size W w) => Lib.hid (loads_at (ca := ca) (cb := cb) (h.kp k) ((rightS_iff s).1 hr))
  obtain ⟨n, ts, cur⟩ := s
  dsimp only at *
  have k0 := (Kp.refl W.heap.size W).alloc (Nat.le_refl _) (.cells #[.int .i64 n, .slice A la ca, .slice B lb cb] 30)
  have X := C3.new W (.int .i64 n) (.slice A la ca) (.slice B lb cb) 30
  clear h hr
  go_enter Try.func16, Try.ntmps16
  go_upto_region 1 with fail
  generalize W.alloc _ = w1 at *
  obtain ⟨bS, hbS⟩ : ∃ b, b = W.heap.size := ⟨_, rfl⟩
  rw [← hbS] at X
  rw [← hbS]
  clear hbS
  have K0 := Lib.hid k0
  have HX := Lib.hid X
  obtain ⟨x0, x1, x2, xl⟩ := X
  clear k0
  go_wp2_with fail
  (with_reducible refine (HR _ K0.out).out.mono ?_)
  clear x0 x1 x2 xl
  rintro e w2 ⟨rfl, hk⟩
  have K1 := Lib.hid (K0.out.trans (hk.mono K0.out.size))
  have HX2 := Lib.hid (HX.out.kp hk)
  clear hk K0 HX
  obtain ⟨x0, x1, x2, xl⟩ := HX2.out
  go_wp2_with fail
  (with_reducible refine (HL _ K1.out).out.mono ?_)
  clear x0 x1 x2 xl
  rintro e w3 ⟨b, rfl, hb, hrow, hk⟩
  have K2 := Lib.hid (K1.out.trans (hk.mono K1.out.size))
  have HRow := Lib.hid hrow
  have hb2 : W.heap.size ≤ b := Nat.le_trans K1.out.size hb
  clear hk K1 HX2 hrow hb
  go_wp2_with fail
  go_ret2
  exact ⟨b, rfl, hb2, HRow.out, K2.out⟩
theorem loadsF_bad (W : World) {A B : Option Addr} {la ca lb cb : Nat} {s : Sc} (h : ScAt W A la B lb s) (hr : rightS s = false) :
    Calls Try.prog 16 #[.agg #[.int .i64 s.n, .slice A la ca, .slice B lb cb]] W fun e w' => e = .returned (.tuple #[.slice none 0 0, .int .i64 270]) ∧ Kp W.heap.size W w' := by
  have HR := fun w (k : Kp W.heap.size W w) => Lib.hid (right_at (ca := ca) (cb := cb) (h.kp k))
  rw [hr] at HR
  obtain ⟨n, ts, cur⟩ := s
  dsimp only at *
  have K0 := Lib.hid ((Kp.refl W.heap.size W).alloc (Nat.le_refl _) (.cells #[.int .i64 n, .slice A la ca, .slice B lb cb] 30))
  clear h hr
  go_enter Try.func16, Try.ntmps16
  go_wp2_with fail
  (with_reducible refine (HR _ K0.out).out.mono ?_)
  rintro e w2 ⟨rfl, hk⟩
  have K1 := Lib.hid (K0.out.trans (hk.mono K0.out.size))
  clear hk K0
  go_wp2_with fail
  go_ret2
  exact ⟨rfl, K1.out⟩
set_option maxHeartbeats 1000000 in
theorem busiest_any (W : World) {A B : Option Addr} {la ca lb cb : Nat} {s : Sc} {cpu : Int} (h : ScAt W A la B lb s) :
    Calls Try.prog 20 #[.agg #[.int .i64 s.n, .slice A la ca, .slice B lb cb], .int .i64 cpu] W fun e w' => e = .returned (.tuple #[.int .i64 (busyN s cpu), .int .i64 (busyE s cpu)]) ∧ Kp W.heap.size W w' := by
  have HR := fun w (k : Kp W.heap.size W w) => Lib.hid (right_at (ca := ca) (cb := cb) (h.kp k))
  have hlb := h.hlb
  cases hr : rightS s with
  | false =>
    have e1 : busyN s cpu = 0 := by unfold busyN; rw [hr]; rfl
    have e2 : busyE s cpu = 270 := by unfold busyE; rw [hr]; rfl
    rw [e1, e2]
    rw [hr] at HR
    obtain ⟨n, ts, cur⟩ := s
    dsimp only at *
    have K0 := Lib.hid (((Kp.refl W.heap.size W).alloc (Nat.le_refl _) (.cells #[.int .i64 n, .slice A la ca, .slice B lb cb] 30)).alloc (by rw [World.size_alloc]; omega) (.cells #[.int .i64 cpu] 3))
    clear h hr e1 e2 hlb
    go_enter Try.func20, Try.ntmps20
    go_wp2_with fail
    (with_reducible refine (HR _ K0.out).out.mono ?_)
    rintro e w2 ⟨rfl, hk⟩
    have K1 := Lib.hid (K0.out.trans (hk.mono K0.out.size))
    clear hk K0
    go_wp2_with fail
    go_ret2
    exact ⟨rfl, K1.out⟩
  | true =>
    have hf := (rightS_iff s).1 hr
    have HL := fun w (k : Kp W.heap.size W w) => Lib.hid (loads_at (ca := ca) (cb := cb) (h.kp k) hf)
    have hn := hf.cur
    have hn1 := hf.n1
    have hn2 := hf.n64
    have e1 : busyN s cpu = if 0 ≤ cpu ∧ cpu < s.n then (((bestI (loadV s.ts) (othersL lb cpu)).getD 0 : Nat) : Int) else 0 := by unfold busyN; rw [hr, hlb]; rfl
    have e2 : busyE s cpu = if 0 ≤ cpu ∧ cpu < s.n then if (bestI (loadV s.ts) (othersL lb cpu)).isSome then 0 else 6 else 2 := by unfold busyE; rw [hr, hlb]; rfl
    obtain ⟨rN, hrN⟩ : ∃ v, v = busyN s cpu := ⟨_, rfl⟩
    obtain ⟨rE, hrE⟩ : ∃ v, v = busyE s cpu := ⟨_, rfl⟩
    rw [← hrN, ← hrE]
    rw [e1] at hrN
    rw [e2] at hrE
    rw [hr] at HR
    rw [hlb] at hn
    obtain ⟨n, ts, cur⟩ := s
    dsimp only at *
    subst hn
    have hl64 : lb ≤ 64 := by omega
    have hl1 : 1 ≤ lb := by omega
    have K0 := Lib.hid (((Kp.refl W.heap.size W).alloc (Nat.le_refl _) (.cells #[.int .i64 (lb : Int), .slice A la ca, .slice B lb cb] 30)).alloc (by rw [World.size_alloc]; omega) (.cells #[.int .i64 cpu] 3))
    have HX := Lib.hid ((C3.new W (.int .i64 (lb : Int)) (.slice A la ca) (.slice B lb cb) 30).alloc (.cells #[.int .i64 cpu] 3))
    have HY0 := Bx.new (W.alloc (.cells #[.int .i64 (lb : Int), .slice A la ca, .slice B lb cb] 30)) (.int .i64 cpu) 3
    rw [World.size_alloc] at HY0
    have HY := Lib.hid HY0
    have HN := Lib.hid hrN
    have HE := Lib.hid hrE
    clear h hr e1 e2 hlb hf hn1 hn2 HY0 hrN hrE
    go_enter Try.func20, Try.ntmps20
    go_upto_region 1 with fail
    generalize (W.alloc _).alloc _ = w1 at *
    obtain ⟨bS, hbS⟩ : ∃ b, b = W.heap.size := ⟨_, rfl⟩
    obtain ⟨bC, hbC⟩ : ∃ b, b = W.heap.size + 1 := ⟨_, rfl⟩
    rw [← hbC] at HY
    rw [← hbS] at HX
    rw [← hbC, ← hbS]
    clear hbS hbC
    obtain ⟨x0, x1, x2, xl⟩ := HX.out
    have y0 := HY.out.cell
    have yl := HY.out.lt
    go_wp2_with fail
    (with_reducible refine (HR _ K0.out).out.mono ?_)
    clear x0 x1 x2 xl y0 yl
    rintro e w2 ⟨rfl, hk⟩
    have K1 := Lib.hid (K0.out.trans (hk.mono K0.out.size))
    have HX2 := Lib.hid (HX.out.kp hk)
    have HY2 := Lib.hid (HY.out.kps hk)
    clear hk K0 HX HY
    obtain ⟨x0, x1, x2, xl⟩ := HX2.out
    have y0 := HY2.out.cell
    have yl := HY2.out.lt
    by_cases hc0 : cpu < 0
    · go_wp2_with fail
      go_ret2
      exact ⟨by rw [HN.out, HE.out, if_neg (by omega), if_neg (by omega)]; rfl, K1.out⟩
    have hc1 : 0 ≤ cpu := by omega
    clear hc0
    by_cases hc2 : (lb : Int) ≤ cpu
    · go_wp2_with fail
      go_ret2
      exact ⟨by rw [HN.out, HE.out, if_neg (by omega), if_neg (by omega)]; rfl, K1.out⟩
    have hc3 : cpu < (lb : Int) := by omega
    clear hc2
    have HN2 := Lib.hid (HN.out.trans (if_pos ⟨hc1, hc3⟩))
    have HE2 := Lib.hid (HE.out.trans (if_pos ⟨hc1, hc3⟩))
    clear HN HE
    go_wp2_with fail
    (with_reducible refine (HL _ K1.out).out.mono ?_)
    clear x0 x1 x2 xl y0 yl
    rintro e w3 ⟨bR, rfl, hb, hrow, hk⟩
    have K2 := Lib.hid (K1.out.trans (hk.mono K1.out.size))
    have HY3 := Lib.hid (HY2.out.kps hk)
    have HRow := Lib.hid hrow
    clear hk K1 HX2 HY2 hrow hb
    go_upto_region 6 with fail
    have HRow2 := Lib.hid (HRow.out.kp ((Kp.refl _ w3).alloc (Nat.le_refl _) (.cells #[.slice (some ⟨bR, 0, none⟩) lb lb] 28)))
    have HB := Lib.hid (Bx.new w3 (.slice (some ⟨bR, 0, none⟩) lb lb) 28)
    have HY4 := Lib.hid (HY3.out.alloc (.cells #[.slice (some ⟨bR, 0, none⟩) lb lb] 28))
    have K3 := Lib.hid (K2.out.alloc K2.out.size (.cells #[.slice (some ⟨bR, 0, none⟩) lb lb] 28))
    clear HY3 HRow
    generalize w3.alloc _ = w4 at *
    obtain ⟨bL, hbL⟩ : ∃ b, b = w3.heap.size := ⟨_, rfl⟩
    rw [← hbL] at HB
    rw [← hbL]
    clear hbL K2
    have HBI := Lib.hid (bestI_any w4 (cpu := cpu) hl64 HB.out.cell HY4.out.cell HB.out.lt HY4.out.lt HRow2.out)
    generalize hO : bestI (loadV ts) (othersL lb cpu) = o at *
    clear hO
    go_wp2_with fail
    (with_reducible refine HBI.out.mono ?_)
    rintro e w5 ⟨rfl, hk⟩
    have K4 := Lib.hid (K3.out.trans (hk.mono K3.out.size))
    clear hk K3
    cases o with
    | none =>
      simp only [Option.getD_none, Option.isSome_none]
      go_wp2_with fail
      go_ret2
      exact ⟨by rw [HN2.out, HE2.out]; rfl, K4.out⟩
    | some y =>
      simp only [Option.getD_some, Option.isSome_some]
      go_wp2_with fail
      go_ret2
      exact ⟨by rw [HN2.out, HE2.out]; rfl, K4.out⟩
end Go.Proofs.Yticgdfbknaholaa
