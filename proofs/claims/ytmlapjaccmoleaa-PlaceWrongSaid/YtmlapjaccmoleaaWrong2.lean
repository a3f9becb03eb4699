/-
  The law PlaceWrong, walked: more cases.
-/
import Derived.Test.YtmlapjaccmoleaaWrong
namespace Go.Proofs.Ytmlapjaccmoleaa
open Go.RowKit

set_option maxRecDepth 100000 in
set_option maxHeartbeats 2000000 in
theorem walk9_1 {v r w f t n g : Int} (W : World) (b : EB v r w) (g0 : g.tmod 5 = 1) (f0 : 0 ≤ f) (f1 : f ≤ 18446744073709551615) (t0 : 0 ≤ t) (t1 : t ≤ 18446744073709551615) :
    Calls Try.prog 9 #[ent v r w, .int .u8 g, .int .i64 n, .int .u64 f, .int .u64 t] W fun e w' => e = .returned (.bool true) ∧ GrewS W w' := by
  obtain ⟨R, M, hb, hr, HM'⟩ := made_ent b
  have hB : EB v R (65537 + n % 4294967296 % 1000) := ⟨hb.v0, hb.v1, hb.r0, hb.r1, by omega, by omega⟩
  have hF : rightB v R (65537 + n % 4294967296 % 1000) = false := decide_eq_false (by omega)
  have HA := fun W => Lib.hid (awakeP_any W)
  have HM := fun W => Lib.hid (HM' W)
  have H1 := fun W => Lib.hid (woken_f (f := f) (c := t) W hB hF)
  have H2 := fun W => Lib.hid (moved_f (f := f) (t := t) W hB hF)
  have H3 := fun W => Lib.hid (ahead_f (f := f) W hB hF)
  have H4 := fun W A hc => Lib.hid (floor_pair (f := f) W A 2 hc hb hB hF)
  have H5 := fun W => Lib.hid (gain_f W hB f0 f1 t0 t1 hF)
  have H6' := fun W x hx => new_no (f := f) (x := x) W f0 f1 hx
  clear HM' hB hF hb hr b f0 f1 t0 t1
  go_enter Try.func9, Try.ntmps9
  go_wp2_with fail
  refine (HA _).out.mono ?_
  rintro e w0 ⟨rfl, hg⟩
  have c0 := hg.kp.cells (K := W.heap.size + 1) (by simp)
  have z0 := hg.kp.frozens (K := W.heap.size + 1) (by simp)
  have s0 : W.heap.size < w0.heap.size := by have := hg.kp.size; simp at this; omega
  have s1 : ∀ k0 : Nat, W.heap.size < w0.heap.size + k0 := by intros; omega
  have s2 : ∀ k0 k1 : Nat, W.heap.size < w0.heap.size + k0 + k1 := by intros; omega
  have s3 : ∀ k0 k1 k2 : Nat, W.heap.size < w0.heap.size + k0 + k1 + k2 := by intros; omega
  have s4 : ∀ k0 k1 k2 k3 : Nat, W.heap.size < w0.heap.size + k0 + k1 + k2 + k3 := by intros; omega
  have s5 : ∀ k0 k1 k2 k3 k4 : Nat, W.heap.size < w0.heap.size + k0 + k1 + k2 + k3 + k4 := by intros; omega
  have s6 : ∀ k0 k1 k2 k3 k4 k5 : Nat, W.heap.size < w0.heap.size + k0 + k1 + k2 + k3 + k4 + k5 := by intros; omega
  have s7 : ∀ k0 k1 k2 k3 k4 k5 k6 : Nat, W.heap.size < w0.heap.size + k0 + k1 + k2 + k3 + k4 + k5 + k6 := by intros; omega
  have s8 : ∀ k0 k1 k2 k3 k4 k5 k6 k7 : Nat, W.heap.size < w0.heap.size + k0 + k1 + k2 + k3 + k4 + k5 + k6 + k7 := by intros; omega
  have s9 : ∀ k0 k1 k2 k3 k4 k5 k6 k7 k8 : Nat, W.heap.size < w0.heap.size + k0 + k1 + k2 + k3 + k4 + k5 + k6 + k7 + k8 := by intros; omega
  have hg := Lib.hid (((GrewS.refl W).alloc _).trans hg)
  go_wp2_with fail
  refine (HM _).out.mono ?_
  rintro e w' ⟨rfl, os1, k1, hl1, rfl⟩
  go_wp2_with fail
  refine (H1 _).out.mono ?_
  rintro e w' ⟨rfl, os2, k2, hl2, rfl⟩
  go_wp2_with fail
  refine (H2 _).out.mono ?_
  rintro e w' ⟨rfl, os3, k3, hl3, rfl⟩
  go_wp2_with fail
  refine (H3 _).out.mono ?_
  rintro e w' ⟨rfl, os4, k4, hl4, rfl⟩
  go_wp2_with fail
  refine (H4 _ _ ?hE).out.mono ?_
  case hE => exact isEnts_pair _ _ (by simp [hl1, hl2, hl3, hl4]) _ _ _ _ _ _
  rintro e w5 ⟨rfl, hg5⟩
  have c5 := hg5.kp.cells (K := w0.heap.size + 2 + 1 + 3 + 1 + 3 + 1 + 2 + 1) (by simp [hl1, hl2, hl3, hl4])
  have n5 : w0.heap.size + 2 + 1 + 3 + 1 + 3 + 1 + 2 + 1 ≤ w5.heap.size := by have := hg5.kp.size; simp [hl1, hl2, hl3, hl4] at this; omega
  have hg5 : Hid (GrewS W w5) := Lib.hid (GrewS.trans (by
    repeat first | exact hg.out | apply GrewS.drewN | apply GrewS.more | apply GrewS.alloc | (refine GrewS.setCell ?_ (by first | exact Nat.le_refl _ | (simp; omega)) _)) hg5)
  go_wp2_with fail
  refine (H5 _).out.mono ?_
  rintro e w6 ⟨rfl, hg6⟩
  have c6 := (hg6.kp.mono n5).cells rfl
  have n6 : w0.heap.size + 2 + 1 + 3 + 1 + 3 + 1 + 2 + 1 ≤ w6.heap.size := by have := hg6.kp.size; omega
  have hg6 : Hid (GrewS W w6) := Lib.hid (hg5.out.trans hg6.s)
  clear hg5
  go_wp2_with fail
  go_loopw [116] (fun i wr => ∃ k : Nat, k ≤ 5 ∧ i = .int .i64 k ∧ wr = w6.alloc (.cells #[.int .i64 2, .int .i64 2, .int .i64 2, .int .i64 2, .int .i64 2] 30)) (fun i _ => 5 - (intOf i).toNat)
  case atStart => exact ⟨0, by omega, rfl, rfl⟩
  case round =>
    obtain ⟨k, hk, rfl, rfl⟩ := hrel
    by_cases hlt : (k : Int) < 5
    · have hcl : (w6.alloc (.cells #[.int .i64 2, .int .i64 2, .int .i64 2, .int .i64 2, .int .i64 2] 30)).cell? ⟨w6.heap.size, k, none⟩ = some (.int .i64 2) := by
        match k, hlt with
        | 0, _ => simp
        | 1, _ => simp
        | 2, _ => simp
        | 3, _ => simp
        | 4, _ => simp
      go_wp2_with fail
      go_roundw
      case rel => exact ⟨k + 1, by omega, by go_num, trivial⟩
      case measure => simp [intOf]; omega
    · have hk5 : k = 5 := by omega
      subst hk5
      clear hlt hk
      go_wp2_with fail
      all_goals
        go_loopw [129] (fun i wr => ∃ k : Nat, k ≤ 2 ∧ i = .int .i64 k ∧ GrewS W wr ∧ w6.heap.size + 2 ≤ wr.heap.size ∧ (∀ b o, b < w0.heap.size + 2 + 1 + 3 + 1 + 3 + 1 + 2 + 1 → wr.cell? ⟨b, o, none⟩ = w6.cell? ⟨b, o, none⟩) ∧
          ∃ x y : Int, wr.cell? ⟨w6.heap.size + 1, 0, none⟩ = some (.int .i64 x) ∧ wr.cell? ⟨w6.heap.size + 1, 1, none⟩ = some (.int .i64 y) ∧ (x < 1 ∨ 65536 < x) ∧ (y < 1 ∨ 65536 < y)) (fun i _ => 2 - (intOf i).toNat)
        case atStart =>
          exact ⟨0, by omega, rfl, (hg6.out.alloc _).alloc _, by simp, ((((Kp.refl w6.heap.size w6).alloc (Nat.le_refl _) _).alloc (by simp) _).mono n6).cells rfl, _, _, (two_cells _ _ _ _ _).1, (two_cells _ _ _ _ _).2, by omega, by omega⟩
        case round =>
          obtain ⟨k, hk, rfl, hgr, hsz, hcc, x, y, hx, hy, px, py⟩ := hrel
          by_cases hlt : (k : Int) < 2
          · rcases (show k = 0 ∨ k = 1 by omega) with rfl | rfl
            · clear hlt hk
              have H := fun W => Lib.hid (H6' W x px)
              have HX := Lib.hid hx
              have HY := Lib.hid hy
              have HC := Lib.hid hcc
              have HS := Lib.hid hsz
              have HG := Lib.hid hgr
              clear hcc hgr hy
              go_wp2_with fail
              refine (H _).out.mono ?_
              rintro e w7 ⟨rfl, hg7⟩
              have HG7 := Lib.hid hg7
              clear hg7
              go_wp2_with fail
              go_roundw
              case rel =>
                have kp7 := (HG7.out.alloc (.cells #[.int .u64 0, .int .u32 0, .int .u32 0] 25)).kp
                exact ⟨1, by omega, by go_num, (HG.out.trans HG7.out).alloc _, by have := kp7.size; have := HS.out; omega, fun b o hb => (kp7.cell (p := ⟨b, o, none⟩) (by have := HS.out; show b < _; omega)).trans (HC.out b o hb), x, y, (kp7.cell (p := ⟨_, 0, none⟩) (by have := HS.out; show w6.heap.size + 1 < _; omega)).trans HX.out, (kp7.cell (p := ⟨_, 1, none⟩) (by have := HS.out; show w6.heap.size + 1 < _; omega)).trans HY.out, px, py⟩
              case measure => simp [intOf]

            · clear hlt hk
              have H := fun W => Lib.hid (H6' W y py)
              have HX := Lib.hid hx
              have HY := Lib.hid hy
              have HC := Lib.hid hcc
              have HS := Lib.hid hsz
              have HG := Lib.hid hgr
              clear hcc hgr hx
              go_wp2_with fail
              refine (H _).out.mono ?_
              rintro e w7 ⟨rfl, hg7⟩
              have HG7 := Lib.hid hg7
              clear hg7
              go_wp2_with fail
              go_roundw
              case rel =>
                have kp7 := (HG7.out.alloc (.cells #[.int .u64 0, .int .u32 0, .int .u32 0] 25)).kp
                exact ⟨2, by omega, by go_num, (HG.out.trans HG7.out).alloc _, by have := kp7.size; have := HS.out; omega, fun b o hb => (kp7.cell (p := ⟨b, o, none⟩) (by have := HS.out; show b < _; omega)).trans (HC.out b o hb), x, y, (kp7.cell (p := ⟨_, 0, none⟩) (by have := HS.out; show w6.heap.size + 1 < _; omega)).trans HX.out, (kp7.cell (p := ⟨_, 1, none⟩) (by have := HS.out; show w6.heap.size + 1 < _; omega)).trans HY.out, px, py⟩
              case measure => simp [intOf]

          · have hk2 : k = 2 := by omega
            subst hk2
            clear hlt hk
            have HG := Lib.hid hgr
            clear hgr hx hy px py
            go_wp2_with fail
            go_ret
            exact ⟨rfl, HG.out⟩
set_option maxRecDepth 100000 in
set_option maxHeartbeats 2000000 in
theorem walk9_2 {v r w f t n g : Int} (W : World) (b : EB v r w) (g0 : g.tmod 5 = 2) (f0 : 0 ≤ f) (f1 : f ≤ 18446744073709551615) (t0 : 0 ≤ t) (t1 : t ≤ 18446744073709551615) :
    Calls Try.prog 9 #[ent v r w, .int .u8 g, .int .i64 n, .int .u64 f, .int .u64 t] W fun e w' => e = .returned (.bool true) ∧ GrewS W w' := by
  obtain ⟨R, M, hb, hr, HM'⟩ := made_ent b
  have hB : EB v M M := ⟨hb.v0, hb.v1, hb.w0, hb.w1, hb.w0, hb.w1⟩
  have hF : rightB v M M = false := decide_eq_false (by omega)
  have HA := fun W => Lib.hid (awakeP_any W)
  have HM := fun W => Lib.hid (HM' W)
  have H1 := fun W => Lib.hid (woken_f (f := f) (c := t) W hB hF)
  have H2 := fun W => Lib.hid (moved_f (f := f) (t := t) W hB hF)
  have H3 := fun W => Lib.hid (ahead_f (f := f) W hB hF)
  have H4 := fun W A hc => Lib.hid (floor_pair (f := f) W A 2 hc hb hB hF)
  have H5 := fun W => Lib.hid (gain_f W hB f0 f1 t0 t1 hF)
  have H6' := fun W x hx => new_no (f := f) (x := x) W f0 f1 hx
  clear HM' hB hF hb hr b f0 f1 t0 t1
  go_enter Try.func9, Try.ntmps9
  go_wp2_with fail
  refine (HA _).out.mono ?_
  rintro e w0 ⟨rfl, hg⟩
  have c0 := hg.kp.cells (K := W.heap.size + 1) (by simp)
  have z0 := hg.kp.frozens (K := W.heap.size + 1) (by simp)
  have s0 : W.heap.size < w0.heap.size := by have := hg.kp.size; simp at this; omega
  have s1 : ∀ k0 : Nat, W.heap.size < w0.heap.size + k0 := by intros; omega
  have s2 : ∀ k0 k1 : Nat, W.heap.size < w0.heap.size + k0 + k1 := by intros; omega
  have s3 : ∀ k0 k1 k2 : Nat, W.heap.size < w0.heap.size + k0 + k1 + k2 := by intros; omega
  have s4 : ∀ k0 k1 k2 k3 : Nat, W.heap.size < w0.heap.size + k0 + k1 + k2 + k3 := by intros; omega
  have s5 : ∀ k0 k1 k2 k3 k4 : Nat, W.heap.size < w0.heap.size + k0 + k1 + k2 + k3 + k4 := by intros; omega
  have s6 : ∀ k0 k1 k2 k3 k4 k5 : Nat, W.heap.size < w0.heap.size + k0 + k1 + k2 + k3 + k4 + k5 := by intros; omega
  have s7 : ∀ k0 k1 k2 k3 k4 k5 k6 : Nat, W.heap.size < w0.heap.size + k0 + k1 + k2 + k3 + k4 + k5 + k6 := by intros; omega
  have s8 : ∀ k0 k1 k2 k3 k4 k5 k6 k7 : Nat, W.heap.size < w0.heap.size + k0 + k1 + k2 + k3 + k4 + k5 + k6 + k7 := by intros; omega
  have s9 : ∀ k0 k1 k2 k3 k4 k5 k6 k7 k8 : Nat, W.heap.size < w0.heap.size + k0 + k1 + k2 + k3 + k4 + k5 + k6 + k7 + k8 := by intros; omega
  have hg := Lib.hid (((GrewS.refl W).alloc _).trans hg)
  go_wp2_with fail
  refine (HM _).out.mono ?_
  rintro e w' ⟨rfl, os1, k1, hl1, rfl⟩
  go_wp2_with fail
  refine (H1 _).out.mono ?_
  rintro e w' ⟨rfl, os2, k2, hl2, rfl⟩
  go_wp2_with fail
  refine (H2 _).out.mono ?_
  rintro e w' ⟨rfl, os3, k3, hl3, rfl⟩
  go_wp2_with fail
  refine (H3 _).out.mono ?_
  rintro e w' ⟨rfl, os4, k4, hl4, rfl⟩
  go_wp2_with fail
  refine (H4 _ _ ?hE).out.mono ?_
  case hE => exact isEnts_pair _ _ (by simp [hl1, hl2, hl3, hl4]) _ _ _ _ _ _
  rintro e w5 ⟨rfl, hg5⟩
  have c5 := hg5.kp.cells (K := w0.heap.size + 2 + 1 + 3 + 1 + 3 + 1 + 2 + 1) (by simp [hl1, hl2, hl3, hl4])
  have n5 : w0.heap.size + 2 + 1 + 3 + 1 + 3 + 1 + 2 + 1 ≤ w5.heap.size := by have := hg5.kp.size; simp [hl1, hl2, hl3, hl4] at this; omega
  have hg5 : Hid (GrewS W w5) := Lib.hid (GrewS.trans (by
    repeat first | exact hg.out | apply GrewS.drewN | apply GrewS.more | apply GrewS.alloc | (refine GrewS.setCell ?_ (by first | exact Nat.le_refl _ | (simp; omega)) _)) hg5)
  go_wp2_with fail
  refine (H5 _).out.mono ?_
  rintro e w6 ⟨rfl, hg6⟩
  have c6 := (hg6.kp.mono n5).cells rfl
  have n6 : w0.heap.size + 2 + 1 + 3 + 1 + 3 + 1 + 2 + 1 ≤ w6.heap.size := by have := hg6.kp.size; omega
  have hg6 : Hid (GrewS W w6) := Lib.hid (hg5.out.trans hg6.s)
  clear hg5
  go_wp2_with fail
  go_loopw [116] (fun i wr => ∃ k : Nat, k ≤ 5 ∧ i = .int .i64 k ∧ wr = w6.alloc (.cells #[.int .i64 2, .int .i64 2, .int .i64 2, .int .i64 2, .int .i64 2] 30)) (fun i _ => 5 - (intOf i).toNat)
  case atStart => exact ⟨0, by omega, rfl, rfl⟩
  case round =>
    obtain ⟨k, hk, rfl, rfl⟩ := hrel
    by_cases hlt : (k : Int) < 5
    · have hcl : (w6.alloc (.cells #[.int .i64 2, .int .i64 2, .int .i64 2, .int .i64 2, .int .i64 2] 30)).cell? ⟨w6.heap.size, k, none⟩ = some (.int .i64 2) := by
        match k, hlt with
        | 0, _ => simp
        | 1, _ => simp
        | 2, _ => simp
        | 3, _ => simp
        | 4, _ => simp
      go_wp2_with fail
      go_roundw
      case rel => exact ⟨k + 1, by omega, by go_num, trivial⟩
      case measure => simp [intOf]; omega
    · have hk5 : k = 5 := by omega
      subst hk5
      clear hlt hk
      go_wp2_with fail
      all_goals
        go_loopw [129] (fun i wr => ∃ k : Nat, k ≤ 2 ∧ i = .int .i64 k ∧ GrewS W wr ∧ w6.heap.size + 2 ≤ wr.heap.size ∧ (∀ b o, b < w0.heap.size + 2 + 1 + 3 + 1 + 3 + 1 + 2 + 1 → wr.cell? ⟨b, o, none⟩ = w6.cell? ⟨b, o, none⟩) ∧
          ∃ x y : Int, wr.cell? ⟨w6.heap.size + 1, 0, none⟩ = some (.int .i64 x) ∧ wr.cell? ⟨w6.heap.size + 1, 1, none⟩ = some (.int .i64 y) ∧ (x < 1 ∨ 65536 < x) ∧ (y < 1 ∨ 65536 < y)) (fun i _ => 2 - (intOf i).toNat)
        case atStart =>
          exact ⟨0, by omega, rfl, (hg6.out.alloc _).alloc _, by simp, ((((Kp.refl w6.heap.size w6).alloc (Nat.le_refl _) _).alloc (by simp) _).mono n6).cells rfl, _, _, (two_cells _ _ _ _ _).1, (two_cells _ _ _ _ _).2, by omega, by omega⟩
        case round =>
          obtain ⟨k, hk, rfl, hgr, hsz, hcc, x, y, hx, hy, px, py⟩ := hrel
          by_cases hlt : (k : Int) < 2
          · rcases (show k = 0 ∨ k = 1 by omega) with rfl | rfl
            · clear hlt hk
              have H := fun W => Lib.hid (H6' W x px)
              have HX := Lib.hid hx
              have HY := Lib.hid hy
              have HC := Lib.hid hcc
              have HS := Lib.hid hsz
              have HG := Lib.hid hgr
              clear hcc hgr hy
              go_wp2_with fail
              refine (H _).out.mono ?_
              rintro e w7 ⟨rfl, hg7⟩
              have HG7 := Lib.hid hg7
              clear hg7
              go_wp2_with fail
              go_roundw
              case rel =>
                have kp7 := (HG7.out.alloc (.cells #[.int .u64 0, .int .u32 0, .int .u32 0] 25)).kp
                exact ⟨1, by omega, by go_num, (HG.out.trans HG7.out).alloc _, by have := kp7.size; have := HS.out; omega, fun b o hb => (kp7.cell (p := ⟨b, o, none⟩) (by have := HS.out; show b < _; omega)).trans (HC.out b o hb), x, y, (kp7.cell (p := ⟨_, 0, none⟩) (by have := HS.out; show w6.heap.size + 1 < _; omega)).trans HX.out, (kp7.cell (p := ⟨_, 1, none⟩) (by have := HS.out; show w6.heap.size + 1 < _; omega)).trans HY.out, px, py⟩
              case measure => simp [intOf]

            · clear hlt hk
              have H := fun W => Lib.hid (H6' W y py)
              have HX := Lib.hid hx
              have HY := Lib.hid hy
              have HC := Lib.hid hcc
              have HS := Lib.hid hsz
              have HG := Lib.hid hgr
              clear hcc hgr hx
              go_wp2_with fail
              refine (H _).out.mono ?_
              rintro e w7 ⟨rfl, hg7⟩
              have HG7 := Lib.hid hg7
              clear hg7
              go_wp2_with fail
              go_roundw
              case rel =>
                have kp7 := (HG7.out.alloc (.cells #[.int .u64 0, .int .u32 0, .int .u32 0] 25)).kp
                exact ⟨2, by omega, by go_num, (HG.out.trans HG7.out).alloc _, by have := kp7.size; have := HS.out; omega, fun b o hb => (kp7.cell (p := ⟨b, o, none⟩) (by have := HS.out; show b < _; omega)).trans (HC.out b o hb), x, y, (kp7.cell (p := ⟨_, 0, none⟩) (by have := HS.out; show w6.heap.size + 1 < _; omega)).trans HX.out, (kp7.cell (p := ⟨_, 1, none⟩) (by have := HS.out; show w6.heap.size + 1 < _; omega)).trans HY.out, px, py⟩
              case measure => simp [intOf]

          · have hk2 : k = 2 := by omega
            subst hk2
            clear hlt hk
            have HG := Lib.hid hgr
            clear hgr hx hy px py
            go_wp2_with fail
            go_ret
            exact ⟨rfl, HG.out⟩
set_option maxRecDepth 100000 in
set_option maxHeartbeats 2000000 in
theorem walk9_3 {v r w f t n g : Int} (W : World) (b : EB v r w) (g0 : g.tmod 5 = 3) (f0 : 0 ≤ f) (f1 : f ≤ 18446744073709551615) (t0 : 0 ≤ t) (t1 : t ≤ 18446744073709551615) :
    Calls Try.prog 9 #[ent v r w, .int .u8 g, .int .i64 n, .int .u64 f, .int .u64 t] W fun e w' => e = .returned (.bool true) ∧ GrewS W w' := by
  obtain ⟨R, M, hb, hr, HM'⟩ := made_ent b
  have hB : EB v ((M + n % 4294967296 % 1000) % 4294967296) M := ⟨hb.v0, hb.v1, by omega, by omega, hb.w0, hb.w1⟩
  have hF : rightB v ((M + n % 4294967296 % 1000) % 4294967296) M = false := decide_eq_false (by have := rightB_of hr; omega)
  have HA := fun W => Lib.hid (awakeP_any W)
  have HM := fun W => Lib.hid (HM' W)
  have H1 := fun W => Lib.hid (woken_f (f := f) (c := t) W hB hF)
  have H2 := fun W => Lib.hid (moved_f (f := f) (t := t) W hB hF)
  have H3 := fun W => Lib.hid (ahead_f (f := f) W hB hF)
  have H4 := fun W A hc => Lib.hid (floor_pair (f := f) W A 2 hc hb hB hF)
  have H5 := fun W => Lib.hid (gain_f W hB f0 f1 t0 t1 hF)
  have H6' := fun W x hx => new_no (f := f) (x := x) W f0 f1 hx
  clear HM' hB hF hb hr b f0 f1 t0 t1
  go_enter Try.func9, Try.ntmps9
  go_wp2_with fail
  refine (HA _).out.mono ?_
  rintro e w0 ⟨rfl, hg⟩
  have c0 := hg.kp.cells (K := W.heap.size + 1) (by simp)
  have z0 := hg.kp.frozens (K := W.heap.size + 1) (by simp)
  have s0 : W.heap.size < w0.heap.size := by have := hg.kp.size; simp at this; omega
  have s1 : ∀ k0 : Nat, W.heap.size < w0.heap.size + k0 := by intros; omega
  have s2 : ∀ k0 k1 : Nat, W.heap.size < w0.heap.size + k0 + k1 := by intros; omega
  have s3 : ∀ k0 k1 k2 : Nat, W.heap.size < w0.heap.size + k0 + k1 + k2 := by intros; omega
  have s4 : ∀ k0 k1 k2 k3 : Nat, W.heap.size < w0.heap.size + k0 + k1 + k2 + k3 := by intros; omega
  have s5 : ∀ k0 k1 k2 k3 k4 : Nat, W.heap.size < w0.heap.size + k0 + k1 + k2 + k3 + k4 := by intros; omega
  have s6 : ∀ k0 k1 k2 k3 k4 k5 : Nat, W.heap.size < w0.heap.size + k0 + k1 + k2 + k3 + k4 + k5 := by intros; omega
  have s7 : ∀ k0 k1 k2 k3 k4 k5 k6 : Nat, W.heap.size < w0.heap.size + k0 + k1 + k2 + k3 + k4 + k5 + k6 := by intros; omega
  have s8 : ∀ k0 k1 k2 k3 k4 k5 k6 k7 : Nat, W.heap.size < w0.heap.size + k0 + k1 + k2 + k3 + k4 + k5 + k6 + k7 := by intros; omega
  have s9 : ∀ k0 k1 k2 k3 k4 k5 k6 k7 k8 : Nat, W.heap.size < w0.heap.size + k0 + k1 + k2 + k3 + k4 + k5 + k6 + k7 + k8 := by intros; omega
  have hg := Lib.hid (((GrewS.refl W).alloc _).trans hg)
  go_wp2_with fail
  refine (HM _).out.mono ?_
  rintro e w' ⟨rfl, os1, k1, hl1, rfl⟩
  go_wp2_with fail
  refine (H1 _).out.mono ?_
  rintro e w' ⟨rfl, os2, k2, hl2, rfl⟩
  go_wp2_with fail
  refine (H2 _).out.mono ?_
  rintro e w' ⟨rfl, os3, k3, hl3, rfl⟩
  go_wp2_with fail
  refine (H3 _).out.mono ?_
  rintro e w' ⟨rfl, os4, k4, hl4, rfl⟩
  go_wp2_with fail
  refine (H4 _ _ ?hE).out.mono ?_
  case hE => exact isEnts_pair _ _ (by simp [hl1, hl2, hl3, hl4]) _ _ _ _ _ _
  rintro e w5 ⟨rfl, hg5⟩
  have c5 := hg5.kp.cells (K := w0.heap.size + 2 + 1 + 3 + 1 + 3 + 1 + 2 + 1) (by simp [hl1, hl2, hl3, hl4])
  have n5 : w0.heap.size + 2 + 1 + 3 + 1 + 3 + 1 + 2 + 1 ≤ w5.heap.size := by have := hg5.kp.size; simp [hl1, hl2, hl3, hl4] at this; omega
  have hg5 : Hid (GrewS W w5) := Lib.hid (GrewS.trans (by
    repeat first | exact hg.out | apply GrewS.drewN | apply GrewS.more | apply GrewS.alloc | (refine GrewS.setCell ?_ (by first | exact Nat.le_refl _ | (simp; omega)) _)) hg5)
  go_wp2_with fail
  refine (H5 _).out.mono ?_
  rintro e w6 ⟨rfl, hg6⟩
  have c6 := (hg6.kp.mono n5).cells rfl
  have n6 : w0.heap.size + 2 + 1 + 3 + 1 + 3 + 1 + 2 + 1 ≤ w6.heap.size := by have := hg6.kp.size; omega
  have hg6 : Hid (GrewS W w6) := Lib.hid (hg5.out.trans hg6.s)
  clear hg5
  go_wp2_with fail
  go_loopw [116] (fun i wr => ∃ k : Nat, k ≤ 5 ∧ i = .int .i64 k ∧ wr = w6.alloc (.cells #[.int .i64 2, .int .i64 2, .int .i64 2, .int .i64 2, .int .i64 2] 30)) (fun i _ => 5 - (intOf i).toNat)
  case atStart => exact ⟨0, by omega, rfl, rfl⟩
  case round =>
    obtain ⟨k, hk, rfl, rfl⟩ := hrel
    by_cases hlt : (k : Int) < 5
    · have hcl : (w6.alloc (.cells #[.int .i64 2, .int .i64 2, .int .i64 2, .int .i64 2, .int .i64 2] 30)).cell? ⟨w6.heap.size, k, none⟩ = some (.int .i64 2) := by
        match k, hlt with
        | 0, _ => simp
        | 1, _ => simp
        | 2, _ => simp
        | 3, _ => simp
        | 4, _ => simp
      go_wp2_with fail
      go_roundw
      case rel => exact ⟨k + 1, by omega, by go_num, trivial⟩
      case measure => simp [intOf]; omega
    · have hk5 : k = 5 := by omega
      subst hk5
      clear hlt hk
      go_wp2_with fail
      all_goals
        go_loopw [129] (fun i wr => ∃ k : Nat, k ≤ 2 ∧ i = .int .i64 k ∧ GrewS W wr ∧ w6.heap.size + 2 ≤ wr.heap.size ∧ (∀ b o, b < w0.heap.size + 2 + 1 + 3 + 1 + 3 + 1 + 2 + 1 → wr.cell? ⟨b, o, none⟩ = w6.cell? ⟨b, o, none⟩) ∧
          ∃ x y : Int, wr.cell? ⟨w6.heap.size + 1, 0, none⟩ = some (.int .i64 x) ∧ wr.cell? ⟨w6.heap.size + 1, 1, none⟩ = some (.int .i64 y) ∧ (x < 1 ∨ 65536 < x) ∧ (y < 1 ∨ 65536 < y)) (fun i _ => 2 - (intOf i).toNat)
        case atStart =>
          exact ⟨0, by omega, rfl, (hg6.out.alloc _).alloc _, by simp, ((((Kp.refl w6.heap.size w6).alloc (Nat.le_refl _) _).alloc (by simp) _).mono n6).cells rfl, _, _, (two_cells _ _ _ _ _).1, (two_cells _ _ _ _ _).2, by omega, by omega⟩
        case round =>
          obtain ⟨k, hk, rfl, hgr, hsz, hcc, x, y, hx, hy, px, py⟩ := hrel
          by_cases hlt : (k : Int) < 2
          · rcases (show k = 0 ∨ k = 1 by omega) with rfl | rfl
            · clear hlt hk
              have H := fun W => Lib.hid (H6' W x px)
              have HX := Lib.hid hx
              have HY := Lib.hid hy
              have HC := Lib.hid hcc
              have HS := Lib.hid hsz
              have HG := Lib.hid hgr
              clear hcc hgr hy
              go_wp2_with fail
              refine (H _).out.mono ?_
              rintro e w7 ⟨rfl, hg7⟩
              have HG7 := Lib.hid hg7
              clear hg7
              go_wp2_with fail
              go_roundw
              case rel =>
                have kp7 := (HG7.out.alloc (.cells #[.int .u64 0, .int .u32 0, .int .u32 0] 25)).kp
                exact ⟨1, by omega, by go_num, (HG.out.trans HG7.out).alloc _, by have := kp7.size; have := HS.out; omega, fun b o hb => (kp7.cell (p := ⟨b, o, none⟩) (by have := HS.out; show b < _; omega)).trans (HC.out b o hb), x, y, (kp7.cell (p := ⟨_, 0, none⟩) (by have := HS.out; show w6.heap.size + 1 < _; omega)).trans HX.out, (kp7.cell (p := ⟨_, 1, none⟩) (by have := HS.out; show w6.heap.size + 1 < _; omega)).trans HY.out, px, py⟩
              case measure => simp [intOf]

            · clear hlt hk
              have H := fun W => Lib.hid (H6' W y py)
              have HX := Lib.hid hx
              have HY := Lib.hid hy
              have HC := Lib.hid hcc
              have HS := Lib.hid hsz
              have HG := Lib.hid hgr
              clear hcc hgr hx
              go_wp2_with fail
              refine (H _).out.mono ?_
              rintro e w7 ⟨rfl, hg7⟩
              have HG7 := Lib.hid hg7
              clear hg7
              go_wp2_with fail
              go_roundw
              case rel =>
                have kp7 := (HG7.out.alloc (.cells #[.int .u64 0, .int .u32 0, .int .u32 0] 25)).kp
                exact ⟨2, by omega, by go_num, (HG.out.trans HG7.out).alloc _, by have := kp7.size; have := HS.out; omega, fun b o hb => (kp7.cell (p := ⟨b, o, none⟩) (by have := HS.out; show b < _; omega)).trans (HC.out b o hb), x, y, (kp7.cell (p := ⟨_, 0, none⟩) (by have := HS.out; show w6.heap.size + 1 < _; omega)).trans HX.out, (kp7.cell (p := ⟨_, 1, none⟩) (by have := HS.out; show w6.heap.size + 1 < _; omega)).trans HY.out, px, py⟩
              case measure => simp [intOf]

          · have hk2 : k = 2 := by omega
            subst hk2
            clear hlt hk
            have HG := Lib.hid hgr
            clear hgr hx hy px py
            go_wp2_with fail
            go_ret
            exact ⟨rfl, HG.out⟩
end Go.Proofs.Ytmlapjaccmoleaa
