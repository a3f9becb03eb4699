/-
  The laws' own 'awake': the chapter's examples.
-/
import Derived.Test.YtjffikiebeneaaaLists17
namespace Go.Proofs.Ytjffikiebeneaaa
open Go.RowKit

/-- The parts of some weights that have parts, read as a slice. -/
theorem parts_good (w : World) (A : Option Addr) (cap n : Nat) (zs : List Int) (ps : List P2) (hn : zs.length = n) (hps : partL zs = ps) (hpe : partE zs = 0) (hpl : ps.length = n) (hm : (n : Int) ≤ 3000000000000000000) (hc : IsInts w .i64 A n zs) :
    Calls Try.prog 23 #[.slice A n cap] w fun e w' => ∃ B c, e = .returned (.tuple #[.slice B n c, .int .i64 0]) ∧ IsPrs w' B n ps ∧ (n ≤ c ∧ c ≤ maxLen) ∧ (∀ p, B = some p → ∃ g, p = ⟨g, 0, none⟩ ∧ w.heap.size ≤ g) ∧ Kp w.heap.size w w' := by
  refine (parts_any w A n cap zs hn hm hc).mono ?_
  rintro e w' ⟨v, rfl, hown, hk⟩
  rw [hps, hpl] at hown
  obtain ⟨B, c, rfl, h1, h2, _, hrd, hb⟩ := own_form hown
  refine ⟨B, c, by rw [hpe], hrd.prs hpl, ⟨h1, h2⟩, fun p hp => ?_, hk⟩
  obtain ⟨g, h3, h4, _⟩ := hb p hp
  exact ⟨g, h3, h4⟩
theorem ints_new (w : World) (zs : List Int) (t : TypeId) : IsInts (w.alloc (.cells (zs.map (Value.int .i64)).toArray t)) .i64 (some ⟨w.heap.size, 0, none⟩) zs.length zs :=
  (rd_new w (zs.map (Value.int .i64)) t 1 zs.length (by simp)).isInts.2
theorem prs_new (w : World) (es : List P2) (t : TypeId) : IsPrs (w.alloc (.cells (flat es).toArray t)) (some ⟨w.heap.size, 0, none⟩) es.length es :=
  (rd_new w (flat es) t 2 es.length (flat_length es)).prs rfl

set_option maxRecDepth 100000 in
set_option maxHeartbeats 4000000 in
theorem awake_any (W : World) : Calls Try.prog 12 #[] W fun e w' => e = .returned (.bool true) ∧ Kp W.heap.size W w' := by
  have Ha' := fun w => of_any (n := 6) (d := 4) w (by decide) (by decide)
  rw [show ofN 6 4 = 3 by kernel_rfl, show ofD 6 4 = 2 by kernel_rfl, show ofE 6 4 = 0 by kernel_rfl] at Ha'
  have Ha := fun w => Lib.hid (Ha' w)
  clear Ha'
  have Hb' := fun w => of_any (n := 0) (d := 9) w (by decide) (by decide)
  rw [show ofN 0 9 = 0 by kernel_rfl, show ofD 0 9 = 1 by kernel_rfl, show ofE 0 9 = 0 by kernel_rfl] at Hb'
  have Hb := fun w => Lib.hid (Hb' w)
  clear Hb'
  have Hc' := fun w => of_any (n := 4294967296) (d := 2147483648) w (by decide) (by decide)
  rw [show ofN 4294967296 2147483648 = 2 by kernel_rfl, show ofD 4294967296 2147483648 = 1 by kernel_rfl, show ofE 4294967296 2147483648 = 0 by kernel_rfl] at Hc'
  have Hc := fun w => Lib.hid (Hc' w)
  clear Hc'
  have Hz' := fun w => of_any (n := 4294967296) (d := 3) w (by decide) (by decide)
  rw [show ofN 4294967296 3 = 0 by kernel_rfl, show ofD 4294967296 3 = 0 by kernel_rfl, show ofE 4294967296 3 = 3 by kernel_rfl] at Hz'
  have Hz := fun w => Lib.hid (Hz' w)
  clear Hz'
  have Hd' := fun w => plus_any 1 6 1 3 w
  rw [show plN 1 6 1 3 = 1 by kernel_rfl, show plD 1 6 1 3 = 2 by kernel_rfl, show plE 1 6 1 3 = 0 by kernel_rfl] at Hd'
  have Hd := fun w => Lib.hid (Hd' w)
  clear Hd'
  have Hf' := fun w => less_any 1 2 1 3 w
  rw [show leN 1 2 1 3 = 1 by kernel_rfl, show leD 1 2 1 3 = 6 by kernel_rfl, show leE 1 2 1 3 = 0 by kernel_rfl] at Hf'
  have Hf := fun w => Lib.hid (Hf' w)
  clear Hf'
  have Hg' := fun w => times_any 2 3 9 4 w
  rw [show tmN 2 3 9 4 = 3 by kernel_rfl, show tmD 2 3 9 4 = 2 by kernel_rfl, show tmE 2 3 9 4 = 0 by kernel_rfl] at Hg'
  have Hg := fun w => Lib.hid (Hg' w)
  clear Hg'
  have Hh' := fun w => over_any 1 2 3 4 w
  rw [show ovN 1 2 3 4 = 2 by kernel_rfl, show ovD 1 2 3 4 = 3 by kernel_rfl, show ovE 1 2 3 4 = 0 by kernel_rfl] at Hh'
  have Hh := fun w => Lib.hid (Hh' w)
  clear Hh'
  have Hs' := fun w => scale_any 2 3 10 w
  rw [show scK 2 3 10 = 6 by kernel_rfl, show scN 2 3 10 = 2 by kernel_rfl, show scD 2 3 10 = 3 by kernel_rfl, show scE 2 3 10 = 0 by kernel_rfl] at Hs'
  have Hs := fun w => Lib.hid (Hs' w)
  clear Hs'
  have Hu' := fun w => plus_any 1 2147483648 1 2147483647 w
  rw [show plN 1 2147483648 1 2147483647 = 0 by kernel_rfl, show plD 1 2147483648 1 2147483647 = 0 by kernel_rfl, show plE 1 2147483648 1 2147483647 = 3 by kernel_rfl] at Hu'
  have Hu := fun w => Lib.hid (Hu' w)
  clear Hu'
  have Hl := fun w A (hc : IsInts w .i64 A 3 [2, 1, 3]) => Lib.hid (parts_good w A 3 3 [2, 1, 3] [(1, 3), (1, 6), (1, 2)] rfl (by kernel_rfl) (by kernel_rfl) rfl (by decide) hc)
  have Hp := fun w A (hc : IsPrs w A 2 [(1, 3), (2, 5)]) => Lib.hid (show Calls Try.prog 27 #[.slice A 2 2] w fun e w' => e = .returned (.tuple #[shr 2 15, .int .i64 0]) ∧ Kp w.heap.size w w' by
    have h := path_any w A 2 2 [(1, 3), (2, 5)] rfl (by decide) hc
    unfold ShPost at h
    rw [show path3 [(1, 3), (2, 5)] = (2, 15, 0) by kernel_rfl] at h
    exact h)
  have He := fun w A B c (ha : IsPrs w A 3 [(1, 3), (1, 6), (1, 2)]) (hb : IsPrs w B 3 [(1, 3), (1, 6), (1, 2)]) => Lib.hid (equalS_same w A B 3 c 3 [(1, 3), (1, 6), (1, 2)] (by decide) ha hb)
  have HK := Lib.hid (Kp.refl W.heap.size W)
  go_enter Try.func12, Try.ntmps12
  go_wp2_with fail
  (with_reducible refine (Ha _).out.mono ?_)
  rintro e w1 ⟨rfl, hg⟩
  have hk := hg.kp
  clear hg
  replace HK := Lib.hid (HK.out.trans (hk.mono (by exact HK.out.size)))
  clear hk
  go_wp2_with fail
  (with_reducible refine (Hb _).out.mono ?_)
  rintro e w2 ⟨rfl, hg⟩
  have hk := hg.kp
  clear hg
  have Xa := ((C2.new w1 (.int .i64 3) (.int .i64 2) 25)).kp hk
  have hs0 := HK.out.size
  replace HK := Lib.hid (((HK.out.alloc hs0 _)).trans (hk.mono (by simp; omega)))
  clear hs0
  clear hk
  generalize w1.heap.size = ba at *
  go_wp2_with fail
  (with_reducible refine (Hc _).out.mono ?_)
  rintro e w3 ⟨rfl, hg⟩
  have hk := hg.kp
  clear hg
  replace Xa := ((Xa.alloc _)).kp hk
  have Xb := ((C2.new w2 (.int .i64 0) (.int .i64 1) 25)).kp hk
  have hs0 := HK.out.size
  replace HK := Lib.hid (((HK.out.alloc hs0 _)).trans (hk.mono (by simp; omega)))
  clear hs0
  clear hk
  generalize w2.heap.size = bb at *
  go_wp2_with fail
  (with_reducible refine (Hz _).out.mono ?_)
  rintro e w4 ⟨rfl, hg⟩
  have hk := hg.kp
  clear hg
  replace Xa := ((Xa.alloc _)).kp hk
  replace Xb := ((Xb.alloc _)).kp hk
  have Xc := ((C2.new w3 (.int .i64 2) (.int .i64 1) 25)).kp hk
  have hs0 := HK.out.size
  replace HK := Lib.hid (((HK.out.alloc hs0 _)).trans (hk.mono (by simp; omega)))
  clear hs0
  clear hk
  generalize w3.heap.size = bc at *
  go_wp2_with fail
  (with_reducible refine (Hd _).out.mono ?_)
  rintro e w5 ⟨rfl, hg⟩
  have hk := hg.kp
  clear hg
  replace Xa := ((Xa.alloc _)).kp hk
  replace Xb := ((Xb.alloc _)).kp hk
  replace Xc := ((Xc.alloc _)).kp hk
  have Xz := ((C2.new w4 (.int .i64 0) (.int .i64 0) 25)).kp hk
  have hs0 := HK.out.size
  replace HK := Lib.hid (((HK.out.alloc hs0 _)).trans (hk.mono (by simp; omega)))
  clear hs0
  clear hk
  generalize w4.heap.size = bz at *
  go_wp2_with fail
  (with_reducible refine (Hf _).out.mono ?_)
  rintro e w6 ⟨rfl, hg⟩
  have hk := hg.kp
  clear hg
  replace Xa := ((Xa.alloc _)).kp hk
  replace Xb := ((Xb.alloc _)).kp hk
  replace Xc := ((Xc.alloc _)).kp hk
  replace Xz := ((Xz.alloc _)).kp hk
  have Xd := ((C2.new w5 (.int .i64 1) (.int .i64 2) 25)).kp hk
  have hs0 := HK.out.size
  replace HK := Lib.hid (((HK.out.alloc hs0 _)).trans (hk.mono (by simp; omega)))
  clear hs0
  clear hk
  generalize w5.heap.size = bd at *
  go_wp2_with fail
  (with_reducible refine (Hg _).out.mono ?_)
  rintro e w7 ⟨rfl, hg⟩
  have hk := hg.kp
  clear hg
  replace Xa := ((Xa.alloc _)).kp hk
  replace Xb := ((Xb.alloc _)).kp hk
  replace Xc := ((Xc.alloc _)).kp hk
  replace Xz := ((Xz.alloc _)).kp hk
  replace Xd := ((Xd.alloc _)).kp hk
  have Xf := ((C2.new w6 (.int .i64 1) (.int .i64 6) 25)).kp hk
  have hs0 := HK.out.size
  replace HK := Lib.hid (((HK.out.alloc hs0 _)).trans (hk.mono (by simp; omega)))
  clear hs0
  clear hk
  generalize w6.heap.size = bf at *
  go_wp2_with fail
  (with_reducible refine (Hh _).out.mono ?_)
  rintro e w8 ⟨rfl, hg⟩
  have hk := hg.kp
  clear hg
  replace Xa := ((Xa.alloc _)).kp hk
  replace Xb := ((Xb.alloc _)).kp hk
  replace Xc := ((Xc.alloc _)).kp hk
  replace Xz := ((Xz.alloc _)).kp hk
  replace Xd := ((Xd.alloc _)).kp hk
  replace Xf := ((Xf.alloc _)).kp hk
  have Xg := ((C2.new w7 (.int .i64 3) (.int .i64 2) 25)).kp hk
  have hs0 := HK.out.size
  replace HK := Lib.hid (((HK.out.alloc hs0 _)).trans (hk.mono (by simp; omega)))
  clear hs0
  clear hk
  generalize w7.heap.size = bg at *
  go_wp2_with fail
  have P := ints_new (w8.alloc (.cells #[.int .i64 2, .int .i64 3] 25)) [2, 1, 3] 3
  rw [show (World.alloc w8 _).heap.size = w8.heap.size + 1 by simp] at P
  refine (Hl _ _ P).out.mono ?_
  clear P
  rintro e w9 ⟨Bl, cl, rfl, Pl, ⟨hl1, hl2⟩, _, hk⟩
  replace Xa := (((Xa.alloc _).alloc _)).kp hk
  replace Xb := (((Xb.alloc _).alloc _)).kp hk
  replace Xc := (((Xc.alloc _).alloc _)).kp hk
  replace Xz := (((Xz.alloc _).alloc _)).kp hk
  replace Xd := (((Xd.alloc _).alloc _)).kp hk
  replace Xf := (((Xf.alloc _).alloc _)).kp hk
  replace Xg := (((Xg.alloc _).alloc _)).kp hk
  have Xh := ((C2.new w8 (.int .i64 2) (.int .i64 3) 25).alloc _).kp hk
  have hs0 := HK.out.size
  replace HK := Lib.hid (((HK.out.alloc hs0 _).alloc (by simp; omega) _).trans (hk.mono (by simp; omega)))
  clear hs0
  clear hk
  generalize w8.heap.size = bh at *
  replace Pl := Lib.hid Pl
  go_wp2_with fail
  have P := prs_new w9 [(1, 3), (2, 5)] 55
  refine (Hp _ _ P).out.mono ?_
  clear P
  rintro e w10 ⟨rfl, hk⟩
  replace Xa := ((Xa.alloc _)).kp hk
  replace Xb := ((Xb.alloc _)).kp hk
  replace Xc := ((Xc.alloc _)).kp hk
  replace Xz := ((Xz.alloc _)).kp hk
  replace Xd := ((Xd.alloc _)).kp hk
  replace Xf := ((Xf.alloc _)).kp hk
  replace Xg := ((Xg.alloc _)).kp hk
  replace Xh := ((Xh.alloc _)).kp hk
  replace Pl := Lib.hid ((Pl.out.kp ((Kp.refl _ _).alloc (Nat.le_refl _) _)).kp hk)
  have hs0 := HK.out.size
  replace HK := Lib.hid (((HK.out.alloc hs0 _)).trans (hk.mono (by simp; omega)))
  clear hs0
  clear hk
  go_wp2_with fail
  (with_reducible refine (Hs _).out.mono ?_)
  rintro e w11 ⟨rfl, hg⟩
  have hk := hg.kp
  clear hg
  replace Xa := ((Xa.alloc _)).kp hk
  replace Xb := ((Xb.alloc _)).kp hk
  replace Xc := ((Xc.alloc _)).kp hk
  replace Xz := ((Xz.alloc _)).kp hk
  replace Xd := ((Xd.alloc _)).kp hk
  replace Xf := ((Xf.alloc _)).kp hk
  replace Xg := ((Xg.alloc _)).kp hk
  replace Xh := ((Xh.alloc _)).kp hk
  replace Pl := Lib.hid ((Pl.out.kp ((Kp.refl _ _).alloc (Nat.le_refl _) _)).kp hk)
  have Xp := ((C2.new w10 (.int .i64 2) (.int .i64 15) 25)).kp hk
  have hs0 := HK.out.size
  replace HK := Lib.hid (((HK.out.alloc hs0 _)).trans (hk.mono (by simp; omega)))
  clear hs0
  clear hk
  generalize w10.heap.size = bp at *
  go_wp2_with fail
  (with_reducible refine (Hu _).out.mono ?_)
  rintro e w12 ⟨rfl, hg⟩
  have hk := hg.kp
  clear hg
  replace Xa := ((Xa.alloc _)).kp hk
  replace Xb := ((Xb.alloc _)).kp hk
  replace Xc := ((Xc.alloc _)).kp hk
  replace Xz := ((Xz.alloc _)).kp hk
  replace Xd := ((Xd.alloc _)).kp hk
  replace Xf := ((Xf.alloc _)).kp hk
  replace Xg := ((Xg.alloc _)).kp hk
  replace Xh := ((Xh.alloc _)).kp hk
  replace Xp := ((Xp.alloc _)).kp hk
  replace Pl := Lib.hid ((Pl.out.kp ((Kp.refl _ _).alloc (Nat.le_refl _) _)).kp hk)
  have Xs := ((C2.new w11 (.int .i64 2) (.int .i64 3) 25)).kp hk
  have hs0 := HK.out.size
  replace HK := Lib.hid (((HK.out.alloc hs0 _)).trans (hk.mono (by simp; omega)))
  clear hs0
  clear hk
  generalize w11.heap.size = bs at *
  have Xa0 := Xa.c0
  have Xa1 := Xa.c1
  have Xal := Xa.lt
  have Xb0 := Xb.c0
  have Xb1 := Xb.c1
  have Xbl := Xb.lt
  have Xc0 := Xc.c0
  have Xc1 := Xc.c1
  have Xcl := Xc.lt
  have Xz0 := Xz.c0
  have Xz1 := Xz.c1
  have Xzl := Xz.lt
  have Xd0 := Xd.c0
  have Xd1 := Xd.c1
  have Xdl := Xd.lt
  have Xf0 := Xf.c0
  have Xf1 := Xf.c1
  have Xfl := Xf.lt
  have Xg0 := Xg.c0
  have Xg1 := Xg.c1
  have Xgl := Xg.lt
  have Xh0 := Xh.c0
  have Xh1 := Xh.c1
  have Xhl := Xh.lt
  have Xp0 := Xp.c0
  have Xp1 := Xp.c1
  have Xpl := Xp.lt
  have Xs0 := Xs.c0
  have Xs1 := Xs.c1
  have Xsl := Xs.lt
  go_wp2_with fail
  have P := prs_new (w12.alloc (.cells #[.int .i64 0, .int .i64 0] 25)) [(1, 3), (1, 6), (1, 2)] 25
  rw [show (World.alloc w12 _).heap.size = w12.heap.size + 1 by simp] at P
  have Q := Pl.out.kp (w := ((w12.alloc (.cells #[.int .i64 0, .int .i64 0] 25)).alloc (.cells (flat [(1, 3), (1, 6), (1, 2)]).toArray 25))) (((Kp.refl _ _).alloc (Nat.le_refl _) _).alloc (by simp) _)
  refine (He _ _ _ _ Q P).out.mono ?_
  clear P Q
  rintro e w20 ⟨rfl, n, rfl⟩
  go_wp2_with fail
  go_ret
  have hs0 := HK.out.size
  exact ⟨rfl, ((HK.out.alloc hs0 _).alloc (by simp; omega) _).drewN n⟩
end Go.Proofs.Ytjffikiebeneaaa
