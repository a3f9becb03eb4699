/-
  The reference: whether a task may run, a task's index, a CPU's load, whether a task is free.
-/
import Derived.Test.YticgdfbknaholaaMx27
namespace Go.Proofs.Yticgdfbknaholaa
open Go.RowKit

theorem div_half {m : Int} (_h : 0 ≤ m) (k : Nat) : m / 2 ^ k / 2 = m / 2 ^ (k + 1) := by
  rw [Int.pow_succ, ← Int.ediv_ediv_of_nonneg (Int.pow_nonneg (by decide))]
set_option maxRecDepth 100000 in
set_option maxHeartbeats 1000000 in
theorem may_any (W : World) {t : Tk} {c : Nat} (m0 : 0 ≤ t.mask) (m1 : t.mask ≤ 18446744073709551615) (hc : c ≤ 64) :
    Calls Try.prog 57 #[tkv t, .int .i64 (c : Int)] W fun e w' => e = .returned (.bool (hasB t.mask (c : Int))) ∧ Kp W.heap.size W w' := by
  have hb : hasB t.mask (c : Int) = (t.mask / 2 ^ c % 2 == 1) := by unfold hasB; rw [Int.toNat_natCast]
  rw [hb]
  clear hb
  obtain ⟨R, hR⟩ : ∃ R, R = (t.mask / 2 ^ c % 2 == 1) := ⟨_, rfl⟩
  rw [← hR]
  have T := TkAt.new W t 43
  have K := (Kp.refl W.heap.size W).alloc (Nat.le_refl _) (.cells (tkc t) 43)
  obtain ⟨id, grp, wt, cpu, mask, rdy, v, r⟩ := t
  dsimp only [tkc] at T K m0 m1 hR
  dsimp only [tkv]
  have HR := Lib.hid hR
  clear hR
  have HT := Lib.hid T
  have HK := Lib.hid K
  clear T K
  go_enter Try.func57, Try.ntmps57
  go_upto_region 1 with fail
  generalize W.alloc _ = w1 at *
  obtain ⟨b0, hb0⟩ : ∃ b, b = W.heap.size := ⟨_, rfl⟩
  rw [← hb0] at HT
  rw [← hb0]
  clear hb0
  obtain ⟨c0, c1, c2, c3, c4, c5, c6, c7, cl⟩ := HT.out
  simp only [Nat.zero_add] at c4
  go_wp2_with fail
  clear c0 c1 c2 c3 c4 c5 c6 c7 cl
  go_loopw [5, 6] (fun m i wr => ∃ k : Nat, k ≤ c ∧ i = .int .i64 (k : Int) ∧ m = .int .u64 (mask / 2 ^ k) ∧ w1 = wr) (fun _ i _ => c - (intOf i).toNat)
  case atStart => exact ⟨0, Nat.zero_le _, rfl, by simp, rfl⟩
  case round =>
    obtain ⟨k, hk, rfl, rfl, rfl⟩ := hrel
    have h0 := (shr_bd (c := (k : Int)) m0 m1).1
    have h1 := (shr_bd (c := (k : Int)) m0 m1).2
    rw [Int.toNat_natCast] at h0 h1
    have hd := div_half m0 k
    by_cases hlt : k < c
    · have hki : (k : Int) < (c : Int) := by omega
      generalize mask / 2 ^ k = x at *
      have hx : Int.tdiv x 2 = x / 2 := Int.tdiv_eq_ediv_of_nonneg h0
      have HD := Lib.hid hd
      clear hd
      go_wp2_with fail
      go_roundw
      case rel => exact ⟨k + 1, by omega, by go_num, by rw [← HD.out], by first | trivial | rfl⟩
      case measure => simp [intOf]; omega
    · have hke : k = c := by omega
      subst hke
      have hkn : ¬ ((k : Int) < (k : Int)) := by omega
      clear hd
      obtain ⟨x, hxx⟩ : ∃ x, x = mask / 2 ^ k := ⟨_, rfl⟩
      have HXX := Lib.hid hxx
      rw [← hxx] at h0 h1
      rw [← hxx]
      clear hxx
      have hx : Int.tmod x 2 = x % 2 := Int.tmod_eq_emod_of_nonneg h0
      go_wp2_with fail
      go_ret
      exact ⟨by rw [HR.out, ← HXX.out]; rfl, HK.out⟩
set_option maxRecDepth 100000 in
set_option maxHeartbeats 1000000 in
theorem find_any (W : World) {A B : Option Addr} {la ca lb cb : Nat} {s : Sc} {id : Int} (h : ScAt W A la B lb s) :
    Calls Try.prog 58 #[.agg #[.int .i64 s.n, .slice A la ca, .slice B lb cb], .int .i64 id] W fun e w' => e = .returned (.int .i64 (idxV s.ts id)) ∧ Kp W.heap.size W w' := by
  obtain ⟨r, hr⟩ : ∃ r, r = idxV s.ts id := ⟨_, rfl⟩
  rw [← hr]
  have HR := Lib.hid hr
  have kk := (Kp.refl W.heap.size W).alloc (Nat.le_refl _) (.cells #[.int .i64 s.n, .slice A la ca, .slice B lb cb] 83)
  have HX := Lib.hid (C3.new W (.int .i64 s.n) (.slice A la ca) (.slice B lb cb) 83)
  have HK := Lib.hid kk
  have HN := Lib.hid h.hla
  have HT := Lib.hid (h.ts.kp kk)
  have hlam := h.lam
  clear h hr kk
  go_enter Try.func58, Try.ntmps58
  go_upto_region 1 with fail
  generalize W.alloc _ = w1 at *
  obtain ⟨b0, hb0⟩ : ∃ b, b = W.heap.size := ⟨_, rfl⟩
  rw [← hb0] at HX
  rw [← hb0]
  clear hb0
  go_wp2_with fail
  go_loopw [5] (fun i wr => ∃ j : Nat, j ≤ la ∧ i = .int .i64 (j : Int) ∧ (∀ k, k < j → (s.ts.getD k t0).id ≠ id) ∧ w1 = wr) (fun i _ => la - (intOf i).toNat)
  case atStart => exact ⟨0, Nat.zero_le _, rfl, (fun k h => absurd h (Nat.not_lt_zero k)), rfl⟩
  case round =>
    obtain ⟨j, hj, rfl, hall, rfl⟩ := hrel
    have HA := Lib.hid hall
    clear hall
    obtain ⟨x0, x1, x2, xl⟩ := HX.out
    by_cases hlt : j < la
    · have hji : (j : Int) < (la : Int) := by omega
      obtain ⟨b, off, rfl, T⟩ := HT.out j hlt
      have c0 := T.c0
      have cl := T.lt
      obtain ⟨z, hz⟩ : ∃ z, z = (s.ts.getD j t0).id := ⟨_, rfl⟩
      rw [← hz] at c0
      have HZ := Lib.hid hz
      clear hz T
      by_cases he : z = id
      · have he' : (z == id) = true := beq_iff_eq.2 he
        have hrj : r = (j : Int) := by
          rw [HR.out]
          have hx : idxT s.ts id = j := idxT_at (by rw [HN.out]; exact hlt) (by rw [← HZ.out]; exact he) HA.out
          unfold idxV
          rw [hx, if_pos (by rw [HN.out]; exact hlt)]
        have HRJ := Lib.hid hrj
        clear hrj he
        go_wp2_with fail
        go_ret
        exact ⟨by rw [HRJ.out]; rfl, HK.out⟩
      · have he' : (z == id) = false := beq_eq_false_iff_ne.2 he
        have HE := Lib.hid he
        clear he
        go_wp2_with fail
        go_roundw
        case rel =>
          refine ⟨j + 1, by omega, by go_num, fun k hk => ?_, by first | trivial | rfl⟩
          rcases Nat.lt_or_ge k j with h2 | h2
          · exact HA.out k h2
          · rw [show k = j by omega, ← HZ.out]; exact HE.out
        case measure => simp [intOf]; omega
    · have hje : j = la := by omega
      subst hje
      have hjn : ¬ ((j : Int) < (j : Int)) := by omega
      have hrj : r = -1 := by
        rw [HR.out]
        have hx : idxT s.ts id = s.ts.length := idxT_none (by rw [HN.out]; exact HA.out)
        unfold idxV
        rw [hx, if_neg (by omega)]
      have HRJ := Lib.hid hrj
      clear hrj
      go_wp2_with fail
      go_ret
      exact ⟨by rw [HRJ.out]; rfl, HK.out⟩
/-- Whether a task is free, as the reference says it. -/
def freeR (s : Sc) (t : Tk) : Bool := t.rdy && (s.cur.getD t.cpu.toNat 0 != t.id)
set_option maxRecDepth 100000 in
set_option maxHeartbeats 1000000 in
theorem freeR_any (W : World) {A B : Option Addr} {la ca lb cb : Nat} {s : Sc} {t : Tk} (h : ScAt W A la B lb s) (t0' : 0 ≤ t.cpu) (t1' : t.cpu < lb) :
    Calls Try.prog 56 #[.agg #[.int .i64 s.n, .slice A la ca, .slice B lb cb], tkv t] W fun e w' => e = .returned (.bool (freeR s t)) ∧ Kp W.heap.size W w' := by
  have k1 := (Kp.refl W.heap.size W).alloc (Nat.le_refl _) (.cells #[.int .i64 s.n, .slice A la ca, .slice B lb cb] 83)
  have X := (C3.new W (.int .i64 s.n) (.slice A la ca) (.slice B lb cb) 83).alloc (.cells (tkc t) 43)
  have T := TkAt.new (W.alloc (.cells #[.int .i64 s.n, .slice A la ca, .slice B lb cb] 83)) t 43
  rw [World.size_alloc] at T
  have k2 := k1.alloc (by simp) (.cells (tkc t) 43)
  have hcu := h.cur.below k2
  have HC := Lib.hid hcu
  obtain ⟨id, grp, wt, cpu, mask, rdy, v, r⟩ := t
  dsimp only [tkc] at *
  dsimp only [tkv]
  obtain ⟨p, rfl⟩ : ∃ p : Nat, cpu = (p : Int) := ⟨cpu.toNat, by omega⟩
  have hf : freeR s ⟨id, grp, wt, (p : Int), mask, rdy, v, r⟩ = (rdy && (s.cur.getD p 0 != id)) := by unfold freeR; dsimp only; rw [Int.toNat_natCast]
  rw [hf]
  obtain ⟨b, off, rfl, hbl, cc⟩ := hcu p (by omega)
  generalize s.cur.getD p 0 = z at *
  have HK := Lib.hid k2
  have HX := Lib.hid X
  have HT := Lib.hid T
  have hpi : (p : Int) < (lb : Int) := t1'
  clear h k1 k2 X T hcu hf
  go_enter Try.func56, Try.ntmps56
  go_upto_region 1 with fail
  generalize (W.alloc _).alloc _ = w1 at *
  obtain ⟨b0, hb0⟩ : ∃ b, b = W.heap.size := ⟨_, rfl⟩
  obtain ⟨b1, hb1⟩ : ∃ b, b = W.heap.size + 1 := ⟨_, rfl⟩
  rw [← hb1] at HT
  rw [← hb0] at HX
  rw [← hb1, ← hb0]
  clear hb0 hb1
  obtain ⟨x0, x1, x2, xl⟩ := HX.out
  obtain ⟨c0, c1, c2, c3, c4, c5, c6, c7, cl⟩ := HT.out
  simp only [Nat.zero_add] at c0 c1 c2 c3 c4 c5 c6 c7
  cases rdy
  · go_region
    all_goals go_wp2_with fail
    all_goals
      go_ret
      exact ⟨rfl, HK.out.drew⟩
  · by_cases hz : z = id
    · have hz' : (z != id) = false := by rw [hz]; simp
      clear hz
      go_region
      all_goals go_wp2_with fail
      all_goals
        go_ret
        exact ⟨by rw [hz']; rfl, HK.out.drew⟩
    · have hz' : (z != id) = true := bne_iff_ne.2 hz
      clear hz
      go_region
      all_goals go_wp2_with fail
      all_goals
        go_ret
        exact ⟨by rw [hz']; rfl, HK.out.drew⟩
set_option maxRecDepth 100000 in
set_option maxHeartbeats 1000000 in
theorem load_any (W : World) {A B : Option Addr} {la ca lb cb c : Nat} {s : Sc} (h : ScAt W A la B lb s) (hf : s.fit) :
    Calls Try.prog 55 #[.agg #[.int .i64 s.n, .slice A la ca, .slice B lb cb], .int .i64 (c : Int)] W fun e w' => e = .returned (.int .i64 (loadV s.ts c)) ∧ Kp W.heap.size W w' := by
  obtain ⟨r, hr⟩ : ∃ r, r = loadV s.ts c := ⟨_, rfl⟩
  rw [← hr]
  have HR := Lib.hid hr
  have kk := (Kp.refl W.heap.size W).alloc (Nat.le_refl _) (.cells #[.int .i64 s.n, .slice A la ca, .slice B lb cb] 83)
  have HX := Lib.hid (C3.new W (.int .i64 s.n) (.slice A la ca) (.slice B lb cb) 83)
  have HK := Lib.hid kk
  have HN := Lib.hid h.hla
  have HT := Lib.hid (h.ts.kp kk)
  have hlm := hf.len
  rw [h.hla] at hlm
  have HE := Lib.hid hf.each
  clear h hr kk hf
  go_enter Try.func55, Try.ntmps55
  go_upto_region 1 with fail
  generalize W.alloc _ = w1 at *
  obtain ⟨b0, hb0⟩ : ∃ b, b = W.heap.size := ⟨_, rfl⟩
  rw [← hb0] at HX
  rw [← hb0]
  clear hb0
  go_wp2_with fail
  go_loopw [5, 6] (fun m i wr => ∃ j : Nat, j ≤ la ∧ i = .int .i64 (j : Int) ∧ m = .int .i64 (loadV (s.ts.take j) c) ∧ w1 = wr) (fun _ i _ => la - (intOf i).toNat)
  case atStart => exact ⟨0, Nat.zero_le _, rfl, rfl, rfl⟩
  case round =>
    obtain ⟨j, hj, rfl, rfl, rfl⟩ := hrel
    obtain ⟨x0, x1, x2, xl⟩ := HX.out
    by_cases hlt : j < la
    · have hji : (j : Int) < (la : Int) := by omega
      have htk := take_snoc' (ts := s.ts) (i := j) (by rw [HN.out]; exact hlt)
      have hft := HE.out (s.ts.getD j t0) (getD_mem' (by rw [HN.out]; exact hlt))
      have hbd := loadV_bd (n := s.n) (ts := s.ts.take j) c (fun t ht => HE.out t (take_mem ht))
      have hjl : (s.ts.take j).length = j := by rw [List.length_take, HN.out]; omega
      rw [hjl] at hbd
      obtain ⟨b, off, rfl, T⟩ := HT.out j hlt
      have hU := loadV_snoc (s.ts.take j) (s.ts.getD j t0) c
      rw [← htk] at hU
      have HU := Lib.hid hU
      clear hU htk hjl
      generalize s.ts.getD j t0 = t at *
      generalize loadV (s.ts.take j) c = L at *
      obtain ⟨id, grp, wt, cpu, mask, rdy, v, r⟩ := t
      obtain ⟨p0, p1, _, _, p2, p3, _⟩ := hft
      dsimp only at *
      obtain ⟨q, rfl⟩ : ∃ q : Nat, cpu = (q : Int) := ⟨cpu.toNat, by omega⟩
      rw [Int.toNat_natCast] at HU
      obtain ⟨c0, c1, c2, c3, c4, c5, c6, c7, cl⟩ := T
      obtain ⟨hb0, hb1⟩ := hbd
      have hb2 : L ≤ 4294901760 := by omega
      clear hb1
      cases rdy
      · go_wp2_with fail
        go_roundw
        case rel => exact ⟨j + 1, by omega, by go_num, by rw [HU.out]; simp, by first | trivial | rfl⟩
        case measure => simp [intOf]; omega
      · by_cases hq : q = c
        · subst hq
          go_wp2_with fail
          go_roundw
          case rel => exact ⟨j + 1, by omega, by go_num, by rw [HU.out]; simp, by first | trivial | rfl⟩
          case measure => simp [intOf]; omega
        · have hq' : ((q : Int) == (c : Int)) = false := beq_eq_false_iff_ne.2 (by omega)
          have hq2 : (q == c) = false := beq_eq_false_iff_ne.2 hq
          go_wp2_with fail
          go_roundw
          case rel => exact ⟨j + 1, by omega, by go_num, by rw [HU.out, hq2]; simp, by first | trivial | rfl⟩
          case measure => simp [intOf]; omega
    · have hje : j = la := by omega
      subst hje
      have hjn : ¬ ((j : Int) < (j : Int)) := by omega
      have htk : s.ts.take j = s.ts := List.take_of_length_le (by rw [HN.out]; exact Nat.le_refl _)
      rw [htk, ← HR.out]
      go_wp2_with fail
      go_ret
      exact ⟨rfl, HK.out⟩
end Go.Proofs.Yticgdfbknaholaa
