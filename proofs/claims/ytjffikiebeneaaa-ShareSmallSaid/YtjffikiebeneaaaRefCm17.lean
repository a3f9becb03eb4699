/-
  The contract of the reference's Compare: whole parts first, then what is left turned over.
-/
import Derived.Test.YtjffikiebeneaaaRefPl17
namespace Go.Proofs.Ytjffikiebeneaaa
open Go.RowKit

/-- What a division of two numbers in bounds gives in a walk. -/
theorem div_facts {p q : Int} (p0 : 0 ≤ p) (p1 : p ≤ 2147483648) (q0 : 0 < q) (q1 : q ≤ 2147483648) :
    q ≠ 0 ∧ (q == 0) = false ∧ Int.tdiv p q = p / q ∧ Int.tmod p q = p % q ∧ IntKind.i64.wrap (p / q) = p / q ∧ IntKind.i64.wrap (p % q) = p % q ∧ 0 ≤ p / q ∧ p / q ≤ 2147483648 ∧ 0 ≤ p % q ∧ p % q < q := by
  have z1 : q ≠ 0 := by omega
  have h0 : 0 ≤ p / q := Int.ediv_nonneg (by omega) (by omega)
  have h1 : p / q ≤ p := Int.ediv_le_self q p0
  have h2 := Int.emod_nonneg p (b := q) (by omega)
  have h3 := Int.emod_lt_of_pos p q0
  exact ⟨z1, beq_eq_false_iff_ne.2 z1, Int.tdiv_eq_ediv_of_nonneg p0, Int.tmod_eq_emod_of_nonneg p0, wrap_in (by omega) (by omega), wrap_in (by omega) (by omega), h0, by omega, h2, h3⟩
/-- What the loop keeps. -/
structure CmL (G sg p q r s : Int) : Prop where
  hsg : sg = 1 ∨ sg = -1
  p0 : 0 ≤ p
  p1 : p ≤ 2147483648
  q0 : 0 < q
  q1 : q ≤ 2147483648
  r0 : 0 ≤ r
  r1 : r ≤ 2147483648
  s0 : 0 < s
  s1 : s ≤ 2147483648
  hG : G = sg * sgV (p * s) (r * q)
theorem CmL.lt {G sg p q r s : Int} (h : CmL G sg p q r s) (hl : p / q < r / s) : G = - sg := by
  rw [h.hG, sgV_neg (cmp_lt h.q0 h.s0 hl)]
  omega
theorem CmL.gt {G sg p q r s : Int} (h : CmL G sg p q r s) (hl : r / s < p / q) : G = sg := by
  rw [h.hG, sgV_pos (cmp_lt h.s0 h.q0 hl)]
  omega
theorem CmL.eq {G sg p q r s : Int} (h : CmL G sg p q r s) (hl : p / q = r / s) : G = sg * sgV (p % q * s) (r % s * q) := by
  rw [h.hG, cmp_rest hl]
theorem CmL.next {G sg p q r s : Int} (h : CmL G sg p q r s) (hl : p / q = r / s) (h1 : 0 < p % q) (h2 : 0 < r % s) : CmL G (-sg) q (p % q) s (r % s) := by
  have m1 := Int.emod_lt_of_pos p h.q0
  have m2 := Int.emod_lt_of_pos r h.s0
  have hq1 := h.q1
  have hs1 := h.s1
  refine ⟨by have := h.hsg; omega, Int.le_of_lt h.q0, h.q1, h1, by omega, Int.le_of_lt h.s0, h.s1, h2, by omega, ?_⟩
  rw [h.eq hl, Int.mul_comm q, Int.mul_comm s, sgV_turn (r % s * q)]
  generalize sgV (r % s * q) (p % q * s) = t
  rw [Int.neg_mul, Int.mul_neg]
theorem CmL.zero {G sg p q r s : Int} (h : CmL G sg p q r s) (hl : p / q = r / s) (h1 : p % q = 0) (h2 : r % s = 0) : G = 0 := by
  rw [h.eq hl, h1, h2, Int.zero_mul, Int.zero_mul, sgV_same, Int.mul_zero]
theorem CmL.first {G sg p q r s : Int} (h : CmL G sg p q r s) (hl : p / q = r / s) (h1 : p % q = 0) (h2 : 0 < r % s) : G = -sg := by
  have := Int.mul_pos h2 h.q0
  rw [h.eq hl, h1, Int.zero_mul, sgV_neg this]
  omega
theorem CmL.second {G sg p q r s : Int} (h : CmL G sg p q r s) (hl : p / q = r / s) (h1 : 0 < p % q) (h2 : r % s = 0) : G = sg := by
  have := Int.mul_pos h1 h.s0
  rw [h.eq hl, h2, Int.zero_mul, sgV_pos this]
  omega

set_option maxRecDepth 100000 in
set_option maxHeartbeats 1000000 in
theorem refCompare_any (a b c d : Int) (W : World) :
    Calls Try.prog 44 #[shr a b, shr c d] W fun e w' => e = .returned (.tuple #[.int .i64 (cmN a b c d), .int .i64 (cmE a b c d)]) ∧ GrewS W w' := by
  cases h1 : rightS a b with
  | false =>
    obtain ⟨e1, e2⟩ := cm_bad (okS_f1 (c := c) (d := d) h1)
    rw [e1, e2]
    have H1 := fun W => Lib.hid (refRight_f W h1)
    clear h1 e1 e2
    go_enter Try.func44, Try.ntmps44
    go_wp2_with fail
    refine (H1 _).out.mono ?_
    rintro e w1 ⟨rfl, hg⟩
    have HG := Lib.hid ((B2.new W a b c d 67).grew hg.s).G
    clear hg
    go_wp2_with fail
    go_ret2
    exact ⟨rfl, HG.out⟩
  | true =>
    cases h2 : rightS c d with
    | false =>
      obtain ⟨e1, e2⟩ := cm_bad (okS_f2 (a := a) (b := b) h2)
      rw [e1, e2]
      have H1 := fun W => Lib.hid (refRight_t W h1)
      have H2 := fun W => Lib.hid (refRight_f W h2)
      clear h1 h2 e1 e2
      go_enter Try.func44, Try.ntmps44
      go_wp2_with fail
      refine (H1 _).out.mono ?_
      rintro e w1 ⟨rfl, hg⟩
      have B := (B2.new W a b c d 67).grew hg.s
      clear hg
      have Y0 := B.Y.c0
      have Y1 := B.Y.c1
      go_wp2_with fail
      refine (H2 _).out.mono ?_
      rintro e w2 ⟨rfl, hg⟩
      have HG := Lib.hid (B.grew hg.s).G
      clear hg Y0 Y1 B
      go_wp2_with fail
      go_ret2
      exact ⟨rfl, HG.out⟩
    | true =>
      obtain ⟨e1, e2⟩ := cm_good h1 h2
      rw [e1, e2]
      obtain ⟨a0, a1, b0, b1, _⟩ := rightS_of h1
      obtain ⟨c0, c1, d0, d1, _⟩ := rightS_of h2
      have HI := Lib.hid (show CmL (sgV (a * d) (c * b)) 1 a b c d from ⟨Or.inl rfl, a0, a1, by omega, b1, c0, c1, by omega, d1, by rw [Int.one_mul]⟩)
      have H1 := fun W => Lib.hid (refRight_t W h1)
      have H2 := fun W => Lib.hid (refRight_t W h2)
      generalize sgV (a * d) (c * b) = G at *
      clear h1 h2 e1 e2 a0 a1 b0 b1 c0 c1 d0 d1
      go_enter Try.func44, Try.ntmps44
      go_wp2_with fail
      refine (H1 _).out.mono ?_
      rintro e w1 ⟨rfl, hg⟩
      have B := (B2.new W a b c d 67).grew hg.s
      clear hg
      have Y0 := B.Y.c0
      have Y1 := B.Y.c1
      go_wp2_with fail
      refine (H2 _).out.mono ?_
      rintro e w2 ⟨rfl, hg⟩
      replace B := B.grew hg.s
      clear hg Y0 Y1
      have X0 := B.X.c0
      have X1 := B.X.c1
      have Y0 := B.Y.c0
      have Y1 := B.Y.c1
      have HG := Lib.hid B.G
      clear B
      go_wp2_with fail
      go_region
      have HG2 := Lib.hid HG.out.drew
      clear HG X0 X1 Y0 Y1 H1 H2
      generalize w2.drew = w3 at *
      go_upto_region 5 with fail
      go_loopw [6, 7, 8, 9, 10] (fun v6 v7 v8 v9 v10 wr => ∃ sg p q r s : Int, v6 = .int .i64 sg ∧ v7 = .int .i64 p ∧ v8 = .int .i64 q ∧ v9 = .int .i64 r ∧ v10 = .int .i64 s ∧ CmL G sg p q r s ∧ GrewS W wr) (fun _ _ v8 _ _ _ => (intOf v8).toNat)
      case atStart => exact ⟨1, a, b, c, d, rfl, rfl, rfl, rfl, rfl, HI.out, HG2.out⟩
      case round =>
        clear HI HG2
        obtain ⟨sg, p, q, r, s, rfl, rfl, rfl, rfl, rfl, L, hg⟩ := hrel
        obtain ⟨u1, u2, u3, u4, u5, u6, u7, u8, u9, u10⟩ := div_facts L.p0 L.p1 L.q0 L.q1
        obtain ⟨v1, v2, v3, v4, v5, v6, v7, v8, v9, v10⟩ := div_facts L.r0 L.r1 L.s0 L.s1
        have p0 := L.p0
        have p1 := L.p1
        have q0 := L.q0
        have q1 := L.q1
        have r0 := L.r0
        have r1 := L.r1
        have s0 := L.s0
        have s1 := L.s1
        have HW := Lib.hid hg
        have HL := Lib.hid L
        have hsg : -1 ≤ sg ∧ sg ≤ 1 := by have := L.hsg; omega
        obtain ⟨hs0, hs1⟩ := hsg
        clear hg L
        rcases Int.lt_or_le (p / q) (r / s) with hl | hge
        · have hG := HL.out.lt hl
          generalize p / q = x at *
          generalize r / s = y at *
          go_wp2_with fail
          go_quiet (fail)
          go_wp2
          go_ret2
          exact ⟨by rw [hG]; rfl, by repeat with_reducible first | exact HW.out | apply GrewS.drewN | apply GrewS.drew⟩
        · rcases Int.lt_or_le (r / s) (p / q) with hl | hge2
          · have hG := HL.out.gt hl
            have hd : decide (p / q < r / s) = false := decide_eq_false (by omega)
            generalize p / q = x at *
            generalize r / s = y at *
            go_wp2_with fail
            go_quiet (fail)
            go_wp2
            go_quiet (fail)
            go_wp2
            go_ret2
            exact ⟨by rw [hG]; rfl, by repeat with_reducible first | exact HW.out | apply GrewS.drewN | apply GrewS.drew⟩
          · have he : p / q = r / s := by omega
            have hd : decide (p / q < r / s) = false := decide_eq_false (by omega)
            have hd2 : decide (r / s < p / q) = false := decide_eq_false (by omega)
            have HN := fun h1 h2 => Lib.hid (HL.out.next he h1 h2)
            have HZ := fun h1 h2 => Lib.hid (HL.out.zero he h1 h2)
            have HF := fun h1 h2 => Lib.hid (HL.out.first he h1 h2)
            have HS := fun h1 h2 => Lib.hid (HL.out.second he h1 h2)
            replace HN := Lib.hid HN
            replace HZ := Lib.hid HZ
            replace HF := Lib.hid HF
            replace HS := Lib.hid HS
            clear he hge hge2 HL
            generalize p / q = x at *
            generalize r / s = y at *
            generalize p % q = m at *
            generalize r % s = n at *
            rcases Int.lt_or_le 0 m with hm | hm
            · have hm1 : (m == 0) = false := beq_eq_false_iff_ne.2 (by omega)
              rcases Int.lt_or_le 0 n with hn | hn
              · have hn1 : (n == 0) = false := beq_eq_false_iff_ne.2 (by omega)
                have hG := HN.out hm hn
                clear HN HZ HF HS
                go_wp2_with fail
                go_quiet (fail)
                go_wp2
                go_quiet (fail)
                go_wp2
                go_region
                go_wp2
                go_roundw
                case rel => exact ⟨_, q, m, s, n, rfl, rfl, rfl, rfl, rfl, hG.out, by repeat with_reducible first | exact HW.out | apply GrewS.drewN | apply GrewS.drew⟩
                case measure => simp [intOf]; omega
              · obtain rfl : n = 0 := by omega
                have hG := HS.out hm rfl
                clear HN HZ HF HS
                go_wp2_with fail
                go_quiet (fail)
                go_wp2
                go_quiet (fail)
                go_wp2
                go_region
                go_wp2
                go_ret2
                exact ⟨by rw [hG.out]; rfl, by repeat with_reducible first | exact HW.out | apply GrewS.drewN | apply GrewS.drew⟩
            · obtain rfl : m = 0 := by omega
              rcases Int.lt_or_le 0 n with hn | hn
              · have hn1 : (n == 0) = false := beq_eq_false_iff_ne.2 (by omega)
                have hG := HF.out rfl hn
                clear HN HZ HF HS
                go_wp2_with fail
                go_quiet (fail)
                go_wp2
                go_quiet (fail)
                go_wp2
                go_region
                go_wp2
                go_ret2
                exact ⟨by rw [hG.out]; rfl, by repeat with_reducible first | exact HW.out | apply GrewS.drewN | apply GrewS.drew⟩
              · obtain rfl : n = 0 := by omega
                have hG := HZ.out rfl rfl
                clear HN HZ HF HS
                go_wp2_with fail
                go_quiet (fail)
                go_wp2
                go_quiet (fail)
                go_wp2
                go_region
                go_wp2
                go_ret2
                exact ⟨by rw [hG.out]; rfl, by repeat with_reducible first | exact HW.out | apply GrewS.drewN | apply GrewS.drew⟩
end Go.Proofs.Ytjffikiebeneaaa
