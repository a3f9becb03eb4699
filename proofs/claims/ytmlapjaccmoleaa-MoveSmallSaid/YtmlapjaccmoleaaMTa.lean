/-
  The law MoveThrough, walked.
-/
import Derived.Test.YtmlapjaccmoleaaMadeM
import Derived.Test.YtmlapjaccmoleaaThru
import Derived.Test.YtmlapjaccmoleaaCells4
import Derived.Deep.CutRange
namespace Go.Proofs.Ytmlapjaccmoleaa
open Go.RowKit

theorem u64s_drop {fs : List Int} (h : U64s fs) (k : Nat) : U64s (fs.drop k) := fun j => by
  rw [List.getD_eq_getElem?_getD, List.getElem?_drop, ← List.getD_eq_getElem?_getD]; exact h _
theorem isInts_drop {w : World} {b o n : Nat} {zs : List Int} (h : IsInts w .u64 (some ⟨b, o, none⟩) n zs) (k : Nat) : IsInts w .u64 (some ⟨b, o + k, none⟩) (n - k) (zs.drop k) := by
  intro i hi
  obtain ⟨b', o', e, h1, h2⟩ := h (k + i) (by omega)
  cases e
  refine ⟨b, o + k, rfl, h1, ?_⟩
  rw [List.getD_eq_getElem?_getD, List.getElem?_drop, ← List.getD_eq_getElem?_getD, Nat.add_assoc]
  exact h2
theorem isInts_le {w : World} {A : Option Addr} {n m : Nat} {zs : List Int} (h : IsInts w .u64 A n zs) (hm : m ≤ n) : IsInts w .u64 A m zs := fun i hi => h i (by omega)
theorem reach_ex {b : Bool} {y r w : Int} (hb : EB y r w) (h : relB b y r w = true) : ∃ lo hi E : Int, (∀ W, Calls Try.prog 38 #[rel b y r w] W fun e w' => e = .returned (.tuple #[.int .u64 lo, .int .u64 hi, .int .i64 E]) ∧ GrewS W w') ∧
    (E = 6 ∨ (E = 0 ∧ ∀ t, 0 ≤ t → t ≤ 18446744073709551615 → lo ≤ t → t ≤ hi → inB b y t = true)) := by
  by_cases hy : b = true ∨ y ≠ 18446744073709551615
  · refine ⟨_, _, _, fun W => reach_t W hb h hy, Or.inr ⟨rfl, fun t t0 t1 h1 h2 => ?_⟩⟩
    unfold inB
    unfold lowV at h1
    unfold highV at h2
    cases b <;> simp_all
  · refine ⟨_, _, _, fun W => reach_n W hb h (by cases b <;> simp_all) (by rcases Int.lt_trichotomy y 18446744073709551615 with h | h | h <;> (first | exact h | exact absurd (Or.inr (by omega)) hy)), Or.inl rfl⟩

set_option maxRecDepth 100000 in
set_option maxHeartbeats 8000000 in
theorem mt_short {v r w : Int} (W : World) (b : EB v r w) (A : Option Addr) (len cap : Nat) (fs : List Int) (hlen : len < 2) (hcap : len ≤ cap) (hmax : (cap : Int) ≤ 9223372036854775807) (hc : IsInts W .u64 A len fs) (hf : U64s fs) (at_ : Int) :
    Calls Try.prog 12 #[ent v r w, .slice A len cap, .int .u8 at_] W fun e w' => e = .returned (.bool true) ∧ GrewS W w' := by
  obtain ⟨R, M, hb, hr, HM'⟩ := madeM_ent b
  have HA := fun W => Lib.hid (awakeM_any W)
  have HM := fun W => Lib.hid (HM' W)
  have H1 := fun (w : World) (hk : GrewS W w) => Lib.hid (through_t w hb hr A len cap fs (by omega) (hc.below hk.kp) hf)
  have e0 : len - 1 = 0 := by omega
  simp only [e0, thAt] at H1
  have hl1 : (len : Int) < 2 := by omega
  have hl2 : (len : Int) < 20 := by omega
  clear hb hr b hc hf HM' e0 hlen
  go_enter Try.func12, Try.ntmps12
  go_wp2_with fail
  refine (HA _).out.mono ?_
  rintro e w1 ⟨rfl, hg1⟩
  have X := C3.kp (C3.new W _ _ _ _) hg1.kp
  have FX := Fz.kp (Fz.new W _ _) hg1.kp
  have hg := Lib.hid (((GrewS.refl W).alloc _).trans hg1)
  clear hg1
  have X_0 := X.c0
  have X_1 := X.c1
  have X_2 := X.c2
  have X_l := X.lt
  go_wp2_with fail
  clear X_0 X_1 X_2 X_l
  refine (HM _).out.mono ?_
  rintro e w2 ⟨rfl, hw2⟩
  have kw2 := hw2.kp
  replace X := C3.kp (by repeat with_reducible first | exact X | apply C3.alloc | apply C3.drew | apply C3.drewN) kw2
  replace hg := Lib.hid (GrewS.trans (by repeat with_reducible first | exact hg.out | apply GrewS.alloc | apply GrewS.drew | apply GrewS.drewN) hw2)
  replace FX := FX.kp kw2
  have FX2 := FX.2
  clear kw2 hw2
  have X_0 := X.c0
  have X_1 := X.c1
  have X_2 := X.c2
  have X_l := X.lt
  clear HM
  go_upto_region 4 with fail
  clear X_0 X_1 X_2 X_l
  clear FX2
  replace X := X.set (.int .u64 v) (.int .u32 R) (.int .u32 M)
  replace hg := Lib.hid (hg.out.set3 (Nat.le_refl _) (.int .u64 v) (.int .u32 R) (.int .u32 M))
  generalize World.setCell _ _ _ = w2 at *
  clear FX
  have X_0 := X.c0
  have X_1 := X.c1
  have X_2 := X.c2
  have X_l := X.lt
  go_wp2_with fail
  refine (H1 _ hg.out).out.mono ?_
  rintro e w3 ⟨rfl, hg1⟩
  replace X := X.kp hg1.kp
  replace hg := Lib.hid (hg.out.trans hg1)
  clear hg1 H1
  clear X_0 X_1 X_2 X_l
  have X_0 := X.c0
  have X_1 := X.c1
  have X_2 := X.c2
  have X_l := X.lt
  go_wp2_with fail
  all_goals
    go_ret
    refine ⟨by first | rfl | (simp; done), ?_⟩
    repeat with_reducible first | exact hg.out | apply GrewS.alloc | apply GrewS.drew
end Go.Proofs.Ytmlapjaccmoleaa
