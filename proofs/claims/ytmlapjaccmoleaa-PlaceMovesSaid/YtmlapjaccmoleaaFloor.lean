/-
  The contracts of place's Floor, and of what it calls, on slices of entities.
-/
import Derived.Test.YtmlapjaccmoleaaPlace2
import Derived.Deep.RegionWith
import Derived.StillTailTactics
namespace Go.Proofs.Ytmlapjaccmoleaa
open Go.RowKit

abbrev E3 := Int × Int × Int
def e0 : E3 := (0, 0, 0)
/-- The entities' cells of a slice. -/
def IsEnts (W : World) (A : Option Addr) (len : Nat) (es : List E3) : Prop :=
  ∀ i, i < len → ∃ b off, A = some ⟨b, off, none⟩ ∧ b < W.heap.size ∧ W.cell? ⟨b, off + i * 3, none⟩ = some (.int .u64 (es.getD i e0).1) ∧
    W.cell? ⟨b, off + i * 3 + 1, none⟩ = some (.int .u32 (es.getD i e0).2.1) ∧ W.cell? ⟨b, off + i * 3 + 2, none⟩ = some (.int .u32 (es.getD i e0).2.2)
theorem IsEnts.kp {W w : World} {A : Option Addr} {len : Nat} {es : List E3} (h : IsEnts W A len es) (hk : Kp W.heap.size W w) : IsEnts w A len es := by
  intro i hi
  obtain ⟨b, off, h1, h2, h3, h4, h5⟩ := h i hi
  exact ⟨b, off, h1, Nat.lt_of_lt_of_le h2 hk.size, (hk.cell (p := ⟨b, _, none⟩) h2).trans h3, (hk.cell (p := ⟨b, _, none⟩) h2).trans h4, (hk.cell (p := ⟨b, _, none⟩) h2).trans h5⟩
def rightE (e : E3) : Bool := rightB e.1 e.2.1 e.2.2
def EBs (es : List E3) : Prop := ∀ e ∈ es, EB e.1 e.2.1 e.2.2
theorem EBs.at {es : List E3} (h : EBs es) {i : Nat} (hi : i < es.length) : EB (es.getD i e0).1 (es.getD i e0).2.1 (es.getD i e0).2.2 := by
  refine h _ ?_
  rw [List.getD_eq_getElem?_getD, List.getElem?_eq_getElem hi]
  exact List.getElem_mem _

theorem notRight_t {v r w : Int} (W : World) (h : rightB v r w = true) : Calls Try.prog 55 #[ent v r w] W fun e w' => e = .returned (.bool false) ∧ Grew 2 W w' := by
  have H := fun W => Lib.hid (right_t W h)
  clear h
  go_enter Try.func55, Try.ntmps55
  go_wp2_with fail
  refine ((H _).out).mono ?_
  rintro e w' ⟨rfl, rfl⟩
  go_wp2_with fail
  go_ret
  exact ⟨rfl, [_, _], 0, rfl, rfl⟩
theorem notRight_f {v r w : Int} (W : World) (b : EB v r w) (h : rightB v r w = false) : Calls Try.prog 55 #[ent v r w] W fun e w' => e = .returned (.bool true) ∧ Grew 2 W w' := by
  have H := fun W => Lib.hid (right_f W b h)
  clear h b
  go_enter Try.func55, Try.ntmps55
  go_wp2_with fail
  refine ((H _).out).mono ?_
  rintro e w' ⟨rfl, rfl⟩
  go_wp2_with fail
  go_ret
  exact ⟨rfl, [_, _], 0, rfl, rfl⟩

def SomeNat (W : World) (e : Ending) (w' : World) : Prop := ∃ n : Nat, e = .returned (.int .i64 n) ∧ GrewS W w'

set_option maxHeartbeats 400000 in
theorem index_good (W : World) (A : Option Addr) (len cap : Nat) (es : List E3) (hmax : (len : Int) ≤ 3000000000000000000) (hc : IsEnts W A len es) (hg : ∀ i, i < len → rightE (es.getD i e0) = true) :
    Calls Try.prog 77 #[.slice A len cap, .func (.func 55) #[] #[]] W fun e w' => e = .returned (.int .i64 (-1)) ∧ GrewS W w' := by
  have HG := Lib.hid hg
  have HC := Lib.hid hc
  clear hg hc
  go_enter Try.func77, Try.ntmps77
  go_wp2
  go_loopw [8] (fun i wr => ∃ k : Nat, k ≤ len ∧ i = .int .i64 k ∧ GrewS W wr) (fun i _ => len - (intOf i).toNat)
  case atStart => exact ⟨0, Nat.zero_le _, rfl, GrewS.refl _⟩
  case round =>
    obtain ⟨k, hk, rfl, hgr⟩ := hrel
    by_cases hlt : (k : Int) < len
    · obtain ⟨b, off, rfl, _, c0, c1, c2⟩ := (HC.out.kp hgr.kp) k (by omega)
      have hg := HG.out k (by omega)
      unfold rightE at hg
      generalize (es.getD k e0).1 = v at *
      generalize (es.getD k e0).2.1 = r at *
      generalize (es.getD k e0).2.2 = w at *
      have H := fun W => Lib.hid (notRight_t W hg)
      have HGR := Lib.hid hgr
      clear hg hgr
      go_wp2_with fail
      refine ((H _).out).mono ?_
      rintro e w' ⟨rfl, os, n, hl, rfl⟩
      go_wp2_with fail
      go_roundw
      case rel => exact ⟨k + 1, by omega, by go_num, (HGR.out.more os).drewN n⟩
      case measure => simp [intOf]; omega
    · go_wp2_with fail
      go_ret
      exact ⟨rfl, hgr⟩

set_option maxHeartbeats 400000 in
theorem index_bad (W : World) (A : Option Addr) (len cap : Nat) (es : List E3) (hmax : (len : Int) ≤ 3000000000000000000) (hc : IsEnts W A len es) (hE : ∀ i, i < len → EB (es.getD i e0).1 (es.getD i e0).2.1 (es.getD i e0).2.2)
    (m : Nat) (hm : m < len) (hb : rightE (es.getD m e0) = false) :
    Calls Try.prog 77 #[.slice A len cap, .func (.func 55) #[] #[]] W (SomeNat W) := by
  have HC := Lib.hid hc
  have HB := Lib.hid hb
  have HE := Lib.hid hE
  clear hb hc hE
  go_enter Try.func77, Try.ntmps77
  go_wp2
  go_loopw [8] (fun i wr => ∃ k : Nat, k ≤ m ∧ i = .int .i64 k ∧ GrewS W wr) (fun i _ => len - (intOf i).toNat)
  case atStart => exact ⟨0, Nat.zero_le _, rfl, GrewS.refl _⟩
  case round =>
    obtain ⟨k, hk, rfl, hgr⟩ := hrel
    have hlt : (k : Int) < len := by omega
    obtain ⟨b, off, rfl, _, c0, c1, c2⟩ := (HC.out.kp hgr.kp) k (by omega)
    have hEB := HE.out k (by omega)
    by_cases hw : rightE (es.getD k e0) = true
    · have hkm : k < m := by
        rcases Nat.lt_or_ge k m with h | h
        · exact h
        · have e : k = m := by omega
          rw [e, HB.out] at hw
          cases hw
      unfold rightE at hw
      generalize (es.getD k e0).1 = v at *
      generalize (es.getD k e0).2.1 = r at *
      generalize (es.getD k e0).2.2 = w at *
      have H := fun W => Lib.hid (notRight_t W hw)
      have HGR := Lib.hid hgr
      clear hw hgr hEB
      go_wp2_with fail
      refine ((H _).out).mono ?_
      rintro e w' ⟨rfl, os, n, hl, rfl⟩
      go_wp2_with fail
      go_roundw
      case rel => exact ⟨k + 1, by omega, by go_num, (HGR.out.more os).drewN n⟩
      case measure => simp [intOf]; omega
    · have hw' : rightE (es.getD k e0) = false := by simpa using hw
      unfold rightE at hw'
      generalize (es.getD k e0).1 = v at *
      generalize (es.getD k e0).2.1 = r at *
      generalize (es.getD k e0).2.2 = w at *
      have H := fun W => Lib.hid (notRight_f W hEB hw')
      have HGR := Lib.hid hgr
      clear hw hw' hgr hEB
      go_wp2_with fail
      refine ((H _).out).mono ?_
      rintro e w' ⟨rfl, os, n, hl, rfl⟩
      go_wp2_with fail
      go_ret
      exact ⟨k, rfl, (HGR.out.more os).drewN n⟩

theorem contains_good (W : World) (A : Option Addr) (len cap : Nat) (es : List E3) (hmax : (len : Int) ≤ 3000000000000000000) (hc : IsEnts W A len es) (hg : ∀ i, i < len → rightE (es.getD i e0) = true) :
    Calls Try.prog 54 #[.slice A len cap, .func (.func 55) #[] #[]] W fun e w' => e = .returned (.bool false) ∧ GrewS W w' := by
  have H := Lib.hid (index_good W A len cap es hmax hc hg)
  clear hc hg
  go_enter Try.func54, Try.ntmps54
  go_wp2_with fail
  refine (H.out).mono ?_
  rintro e w' ⟨rfl, hgr⟩
  go_wp2_with fail
  go_ret
  exact ⟨rfl, hgr⟩

theorem contains_bad (W : World) (A : Option Addr) (len cap : Nat) (es : List E3) (hmax : (len : Int) ≤ 3000000000000000000) (hc : IsEnts W A len es) (hE : ∀ i, i < len → EB (es.getD i e0).1 (es.getD i e0).2.1 (es.getD i e0).2.2)
    (m : Nat) (hm : m < len) (hb : rightE (es.getD m e0) = false) :
    Calls Try.prog 54 #[.slice A len cap, .func (.func 55) #[] #[]] W fun e w' => e = .returned (.bool true) ∧ GrewS W w' := by
  have H := Lib.hid (index_bad W A len cap es hmax hc hE m hm hb)
  clear hc hb hm hE
  go_enter Try.func54, Try.ntmps54
  go_wp2_with fail
  refine (H.out).mono ?_
  rintro e w' ⟨n, rfl, hgr⟩
  go_wp2_with fail
  go_ret
  exact ⟨rfl, hgr⟩

def cmpI (a b : Int) : Int := if a < b then -1 else if b < a then 1 else 0

theorem compare_any (a b : Int) (W : World) : Calls Try.prog 58 #[.int .u64 a, .int .u64 b] W fun e w' => e = .returned (.int .i64 (cmpI a b)) ∧ W = w' := by
  by_cases h1 : a < b
  · have e : cmpI a b = -1 := by unfold cmpI; rw [if_pos h1]
    rw [e]
    clear e
    go_enter Try.func58, Try.ntmps58
    go_wp2
    go_ret
    exact ⟨rfl, rfl⟩
  by_cases h2 : b < a
  · have e : cmpI a b = 1 := by unfold cmpI; rw [if_neg h1, if_pos h2]
    have g : decide (a < b) = false := decide_eq_false h1
    rw [e]
    clear e h1
    go_enter Try.func58, Try.ntmps58
    go_wp2
    go_ret
    exact ⟨rfl, rfl⟩
  · have e : cmpI a b = 0 := by unfold cmpI; rw [if_neg h1, if_neg h2]
    have g : a = b := by omega
    subst g
    rw [e]
    clear e h1 h2
    go_enter Try.func58, Try.ntmps58
    go_wp2
    go_ret
    exact ⟨rfl, rfl⟩

theorem byV_any (v r w v' r' w' : Int) (W : World) : Calls Try.prog 57 #[ent v r w, ent v' r' w'] W fun e w1 => e = .returned (.int .i64 (cmpI v v')) ∧ Grew 2 W w1 := by
  have H := fun W => Lib.hid (compare_any v v' W)
  go_enter Try.func57, Try.ntmps57
  go_wp2_with fail
  refine ((H _).out).mono ?_
  rintro e w1 ⟨rfl, rfl⟩
  go_wp2_with fail
  go_ret
  exact ⟨rfl, [_, _], 0, rfl, rfl⟩

/-- The least V of the first k + 1 entities. -/
def minV (es : List E3) : Nat → Int
  | 0 => (es.getD 0 e0).1
  | k + 1 => if (es.getD (k + 1) e0).1 < minV es k then (es.getD (k + 1) e0).1 else minV es k

def MinP (W : World) (m : Int) (e : Ending) (w' : World) : Prop := ∃ r w : Int, e = .returned (ent m r w) ∧ GrewS W w'

/-- A block that holds three cells, and may be written. -/
def Own3 (w : World) (B : Nat) (x y z : Value) : Prop := w.heap[B]? = some (.cells #[x, y, z] 25 (0, 0))
section
variable {w w' : World} {B : Nat} {x y z : Value}
theorem Own3.c0 (h : Own3 w B x y z) : w.cell? ⟨B, 0, none⟩ = some x := cell_of_row w B 0 _ 25 (0, 0) h
theorem Own3.c1 (h : Own3 w B x y z) : w.cell? ⟨B, 1, none⟩ = some y := cell_of_row w B 1 _ 25 (0, 0) h
theorem Own3.c2 (h : Own3 w B x y z) : w.cell? ⟨B, 2, none⟩ = some z := cell_of_row w B 2 _ 25 (0, 0) h
theorem Own3.fz (h : Own3 w B x y z) (i : Nat) : w.frozen? ⟨B, i, none⟩ = false := frozen_of_row w B i _ 25 h
theorem Own3.lt (h : Own3 w B x y z) : B < w.heap.size := by
  rcases Nat.lt_or_ge B w.heap.size with h1 | h1
  · exact h1
  · unfold Own3 at h; rw [Array.getElem?_eq_none h1] at h; cases h
theorem Own3.kp (h : Own3 w B x y z) (hk : Kp w.heap.size w w') : Own3 w' B x y z := (hk.block B h.lt).trans h
theorem Own3.set0 (h : Own3 w B x y z) (u : Value) : Own3 (w.setCell ⟨B, 0, none⟩ u) B u y z := by
  unfold Own3 at *
  simp [World.setCell, Array.getElem?_modify, h]
theorem Own3.set1 (h : Own3 w B x y z) (u : Value) : Own3 (w.setCell ⟨B, 1, none⟩ u) B x u z := by
  unfold Own3 at *
  simp [World.setCell, Array.getElem?_modify, h]
theorem Own3.set2 (h : Own3 w B x y z) (u : Value) : Own3 (w.setCell ⟨B, 2, none⟩ u) B x y u := by
  unfold Own3 at *
  simp [World.setCell, Array.getElem?_modify, h]
theorem Own3.far (h : Own3 w B x y z) {p : Addr} (hp : B ≠ p.block) (u : Value) : Own3 (w.setCell p u) B x y z := (Below.heap_setCell w p u B hp).trans h
theorem Own3.new (w : World) (x y z : Value) : Own3 (w.alloc (.cells #[x, y, z] 25)) w.heap.size x y z := heap_alloc_new w _
theorem Own3.alloc (h : Own3 w B x y z) (o : Obj) : Own3 (w.alloc o) B x y z := h.kp ((Kp.refl _ _).alloc (Nat.le_refl _) o)
end

set_option maxRecDepth 100000 in
set_option maxHeartbeats 400000 in
theorem minFunc_any (W : World) (A : Option Addr) (len cap : Nat) (es : List E3) (hpos : 0 < (len : Int)) (hmax : (len : Int) ≤ 3000000000000000000) (hc : IsEnts W A len es) :
    Calls Try.prog 56 #[.slice A len cap, .func (.func 57) #[] #[]] W (MinP W (minV es (len - 1))) := by
  obtain ⟨b, off, rfl, hb, c0, c1, c2⟩ := hc 0 (by omega)
  have HC := Lib.hid hc
  clear hc
  have hm0 : minV es 0 = (es.getD 0 e0).1 := rfl
  rw [← hm0] at c0
  simp only [Nat.zero_mul, Nat.add_zero] at c0 c1 c2
  generalize (es.getD 0 e0).2.1 = r at *
  generalize (es.getD 0 e0).2.2 = w at *
  have HM := Lib.hid hm0
  clear hm0
  go_enter Try.func56, Try.ntmps56
  go_wp2
  go_loopw [6] (fun i wr => ∃ (j : Nat) (r w : Int), 1 ≤ j ∧ j ≤ len ∧ i = .int .i64 j ∧ GrewS W wr ∧ Own3 wr W.heap.size (.int .u64 0) (.int .u32 0) (.int .u32 0) ∧ Own3 wr (W.heap.size + 1) (.int .u64 (minV es (j - 1))) (.int .u32 r) (.int .u32 w)) (fun i _ => len - (intOf i).toNat)
  case atStart => exact ⟨1, r, w, Nat.le_refl _, by omega, rfl, ((GrewS.refl _).alloc _).alloc _, (Own3.new _ _ _ _).alloc _, by simpa using Own3.new (W.alloc (.cells #[.int .u64 0, .int .u32 0, .int .u32 0] 25)) (.int .u64 (minV es 0)) (.int .u32 r) (.int .u32 w)⟩
  case round =>
    clear c0 c1 c2
    obtain ⟨j, r, w, hj1, hj2, rfl, hgr, hB0, hB1⟩ := hrel
    have m0 := hB1.c0
    have m1 := hB1.c1
    have m2 := hB1.c2
    have q0 := hB0.c0
    have q1 := hB0.c1
    have q2 := hB0.c2
    have f0 := hB1.fz 0
    have f1 := hB1.fz 1
    have f2 := hB1.fz 2
    have g0 := hB0.fz 0
    have g1 := hB0.fz 1
    have g2 := hB0.fz 2
    by_cases hlt : (j : Int) < len
    · obtain ⟨b', off', hbo, hb', c0, c1, c2⟩ := (HC.out.kp hgr.kp) j (by omega)
      simp only [Option.some.injEq, Addr.mk.injEq, and_true] at hbo
      obtain ⟨rfl, rfl⟩ := hbo
      have hms : minV es (j - 1 + 1) = if (es.getD j e0).1 < minV es (j - 1) then (es.getD j e0).1 else minV es (j - 1) := by
        rw [minV, show j - 1 + 1 = j from by omega]
      rw [show j - 1 + 1 = j from by omega] at hms
      have HMS := Lib.hid hms
      clear hms
      generalize (es.getD j e0).1 = v' at *
      generalize (es.getD j e0).2.1 = r' at *
      generalize (es.getD j e0).2.2 = w' at *
      generalize minV es (j - 1) = m at *
      go_wp2_with fail
      go_still_tail 6, (by kernel_rfl)
      change wpList _ _ _ _ _ (wr.drewN 1)
      by_cases hv : v' < m
      · have e : cmpI v' m = -1 := by unfold cmpI; rw [if_pos hv]
        have H := fun W => Lib.hid (byV_any v' r' w' m r w W)
        rw [e] at H
        have HS : Hid (minV es j = v') := HMS.out.trans (if_pos hv)
        have HGR := Lib.hid hgr
        have K0 := Lib.hid hB0
        have K1 := Lib.hid hB1
        have hsz := hB1.lt
        clear e hgr hB0 hB1
        go_wp2_with fail
        refine ((H _).out).mono ?_
        rintro e w1 ⟨rfl, hg1⟩
        have hgr1 : GrewS W w1 := HGR.out.trans ((GrewS.refl wr).drewN 1 |>.trans hg1.s)
        have hk1 : Kp wr.heap.size wr w1 := ((Kp.refl _ wr).drewN 1).trans hg1.kp
        have J0 := Lib.hid (K0.out.kp hk1)
        have J1 := Lib.hid (K1.out.kp hk1)
        have d0 := (hk1.cell (p := ⟨b, off + j * 3, none⟩) hb').trans c0
        have d1 := (hk1.cell (p := ⟨b, off + j * 3 + 1, none⟩) hb').trans c1
        have d2 := (hk1.cell (p := ⟨b, off + j * 3 + 2, none⟩) hb').trans c2
        have HGR1 := Lib.hid hgr1
        clear m0 m1 m2 q0 q1 q2 f0 f1 f2 g0 g1 g2 c0 c1 c2 hgr1 hk1 hg1 hb' H
        have m0 := J1.out.c0
        have m1 := J1.out.c1
        have m2 := J1.out.c2
        have f0 := J1.out.fz 0
        have f1 := J1.out.fz 1
        have f2 := J1.out.fz 2
        go_wp2_with fail
        go_roundw
        case rel =>
          refine ⟨j + 1, r', w', by omega, by omega, by go_num, ((HGR1.out.setCell (by simp) _).setCell (by simp) _).setCell (by simp) _, ((J0.out.far (by simp) _).far (by simp) _).far (by simp) _, ?_⟩
          rw [show j + 1 - 1 = j from by omega, HS.out]
          exact ((J1.out.set0 _).set1 _).set2 _
        case measure => simp [intOf]; omega
      · have e : 0 ≤ cmpI v' m := by unfold cmpI; rw [if_neg hv]; split <;> omega
        have H := fun W => Lib.hid (byV_any v' r' w' m r w W)
        have HS : Hid (minV es j = m) := HMS.out.trans (if_neg hv)
        have HGR := Lib.hid hgr
        have K0 := Lib.hid hB0
        have K1 := Lib.hid hB1
        clear hgr hB0 hB1
        generalize cmpI v' m = c at *
        have g : decide (c < 0) = false := decide_eq_false (by omega)
        go_wp2_with fail
        refine ((H _).out).mono ?_
        rintro e w1 ⟨rfl, hg1⟩
        have HGR1 : Hid (GrewS W w1) := HGR.out.trans ((GrewS.refl wr).drewN 1 |>.trans hg1.s)
        have hk1 : Kp wr.heap.size wr w1 := ((Kp.refl _ wr).drewN 1).trans hg1.kp
        have J0 := Lib.hid (K0.out.kp hk1)
        have J1 := Lib.hid (K1.out.kp hk1)
        clear m0 m1 m2 q0 q1 q2 f0 f1 f2 g0 g1 g2 c0 c1 c2 hk1 hg1 hb' H
        go_wp2_with fail
        go_roundw
        case rel =>
          refine ⟨j + 1, r, w, by omega, by omega, by go_num, HGR1.out, J0.out, ?_⟩
          rw [show j + 1 - 1 = j from by omega, HS.out]
          exact J1.out
        case measure => simp [intOf]; omega
    · have hz : j = len := by omega
      subst hz
      have HGR := Lib.hid hgr
      have K0 := Lib.hid hB0
      clear hgr hB0 hB1
      go_wp2_with fail
      have F := ((K0.out.set0 (.int .u64 (minV es (j - 1)))).set1 (.int .u32 r)).set2 (.int .u32 w)
      have z0 := F.c0
      have z1 := F.c1
      have z2 := F.c2
      exact bodyPost_ret (v := ent (minV es (j - 1)) r w) (by simp [results, Try.results56, go_sem, z0, z1, z2]) rfl ⟨r, w, rfl, ((HGR.out.setCell (by simp) _).setCell (by simp) _).setCell (by simp) _⟩
end Go.Proofs.Ytmlapjaccmoleaa
