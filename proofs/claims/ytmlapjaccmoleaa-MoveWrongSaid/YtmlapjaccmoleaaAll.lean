/-
  The contract of move's All.
-/
import Derived.Test.YtmlapjaccmoleaaEnts
import Derived.Test.YtmlapjaccmoleaaThru
import Derived.Test.YtmlapjaccmoleaaCells4
namespace Go.Proofs.Ytmlapjaccmoleaa
open Go.RowKit

/-- An entity, moved. -/
def mvE (f t : Int) (e : E3) : E3 := (mvV e.1 f t, mvR e.1 e.2.1 f t, e.2.2)
theorem through2_t {v r w f t : Int} (W : World) (b : EB v r w) (h : rightB v r w = true) (f0 : 0 ≤ f ∧ f ≤ 18446744073709551615) (t0 : 0 ≤ t ∧ t ≤ 18446744073709551615) (p : Nat)
    (hc : C2 W p (.int .u64 f) (.int .u64 t)) :
    Calls Try.prog 36 #[ent v r w, .slice (some ⟨p, 0, none⟩) 2 2] W fun e w' => e = .returned (.tuple #[ent (mvV v f t) (mvR v r f t) w, .int .i64 0]) ∧ GrewS W w' :=
  through_t W b h (some ⟨p, 0, none⟩) 2 2 [f, t] (by omega) (fun i hi => by
    match i, hi with
    | 0, _ => exact ⟨p, 0, rfl, hc.lt, hc.c0⟩
    | 1, _ => exact ⟨p, 0, rfl, hc.lt, hc.c1⟩) (fun j => by
    match j with
    | 0 => exact f0
    | 1 => exact t0
    | _ + 2 => simp)
/-- The list moved, behind a call. -/
def AllPost (W : World) (es : List E3) (e : Ending) (w' : World) : Prop :=
  ∃ v, e = .returned (.tuple #[v, .int .i64 0]) ∧ w'.ownsRow W.heap.size 25 3 v es.length (flat es) ∧ Kp W.heap.size W w'

set_option maxRecDepth 100000 in
set_option maxHeartbeats 1000000 in
theorem all_t {f t : Int} (W : World) (A : Option Addr) (len cap : Nat) (es : List E3) (hlen : es.length = len) (hmax : len ≤ 100) (hc : IsEnts W A len es) (hE : EBs es) (hg : ∀ i, i < len → rightE (es.getD i e0) = true)
    (f0 : 0 ≤ f ∧ f ≤ 18446744073709551615) (t0 : 0 ≤ t ∧ t ≤ 18446744073709551615) :
    Calls Try.prog 42 #[.slice A len cap, .int .u64 f, .int .u64 t] W (AllPost W (es.map (mvE f t))) := by
  obtain ⟨i0, hi, hz0, hz1, hz2⟩ := info_parts ent_info
  have HI := Lib.hid hi
  have HZ0 := Lib.hid hz0
  have HZ1 := Lib.hid hz1
  have HZ2 := Lib.hid hz2
  have HL := Lib.hid hlen
  have HC := Lib.hid hc
  have HE := Lib.hid (fun i (h : i < len) => hE.at (i := i) (by omega))
  have HG := Lib.hid hg
  have HF := Lib.hid f0
  have HT := Lib.hid t0
  have hm : (len : Int) ≤ 100 := by omega
  clear hi hz0 hz1 hz2 hlen hc hE hg f0 t0
  go_enter Try.func42, Try.ntmps42
  go_wp2_with fail
  go_loopw [8, 15] (fun o i wr => ∃ j : Nat, j ≤ len ∧ i = .int .i64 j ∧ wr.ownsRow W.heap.size 25 3 o j (flat ((es.take j).map (mvE f t))) ∧ Kp W.heap.size W wr) (fun _ i _ => len - (intOf i).toNat)
  case atStart => exact ⟨0, Nat.zero_le _, rfl, World.ownsRow_nil _ _ _ _, Kp.refl _ _⟩
  case round =>
    obtain ⟨j, hj, rfl, hown, hkp⟩ := hrel
    by_cases hlt : j < len
    · obtain ⟨b, off, rfl, _, c0, c1, c2⟩ := (HC.out.kp hkp) j hlt
      have hb := HE.out j hlt
      have hr := HG.out j hlt
      have hS := take_snocE es j (by have := HL.out; omega)
      unfold rightE at hr
      obtain ⟨x, hx⟩ : ∃ x, x = es.getD j e0 := ⟨_, rfl⟩
      rw [← hx] at c0 c1 c2 hb hr hS
      obtain ⟨v, r, w⟩ := x
      dsimp only at c0 c1 c2 hb hr
      have hE2 : flat ((es.take (j + 1)).map (mvE f t)) = flat ((es.take j).map (mvE f t)) ++ flat [(mvV v f t, mvR v r f t, w)] := by
        rw [hS, List.map_append, flat_app]
        rfl
      have H := fun W p hc => Lib.hid (through2_t W hb hr HF.out HT.out p hc)
      have HS := Lib.hid hE2
      have HK := Lib.hid hkp
      have HO := Lib.hid hown
      have hji : (j : Int) < len := by omega
      generalize mvV v f t = V at *
      generalize mvR v r f t = R at *
      clear hS hE2 hb hr hx hown
      have hsz := hkp.size
      clear hkp
      go_wp2_with fail
      have P := C2.new (wr.alloc (.cells #[.int .u64 v, .int .u32 r, .int .u32 w] 25)) (.int .u64 f) (.int .u64 t) 22
      have hP : (wr.alloc (.cells #[.int .u64 v, .int .u32 r, .int .u32 w] 25)).heap.size = wr.heap.size + 1 := by simp
      rw [hP] at P
      have HP := Lib.hid P
      clear P hP
      refine (H _ _ HP.out).out.mono ?_
      rintro e w1 ⟨rfl, hg1⟩
      have HO1 := Lib.hid (own_kp HO.out (((Kp.refl _ wr).alloc (Nat.le_refl _) _).alloc (by simp) _ |>.trans (hg1.kp.mono (by simp; omega))))
      have HK1 := Lib.hid (((HK.out.alloc HK.out.size _).alloc (by simp; omega) _).trans (hg1.kp.mono (by simp; omega)))
      clear H HP hg1 c0 c1 c2 HO HK hsz
      have hsz1 := HK1.out.size
      go_wp2_with (at_builtin; refine wpList_append_rd _ rfl _ _ 44 rfl W.heap.size 25 i0 (.agg #[.int .u64 0, .int .u32 0, .int .u32 0]) 3 16 Try.underlying44 HI.out HZ0.out HZ1.out HZ2.out rfl (by decide) _ j (flat ((es.take j).map (mvE f t))) rfl ?qc1 (some ⟨w1.heap.size + 1, 0, none⟩) 1 1 (flat [(V, R, w)]) rfl ?qc2 (flat_one [(V, R, w)]) ?qc4 ?qc5 ?qc6 ?_)
      case qc1 => exact own_kp HO1.out (((Kp.refl _ w1).alloc (Nat.le_refl _) _).alloc (by simp) _)
      case qc2 => simpa using rd_ent (w1.alloc (.cells #[.int .u64 V, .int .u32 R, .int .u32 w] 25)) V R w 25
      case qc4 => unfold maxLen; omega
      case qc5 => omega
      case qc6 => simp; omega
      intro v' w2 hown' hgrow
      have HO2 := Lib.hid (show w2.ownsRow W.heap.size 25 3 v' (j + 1) (flat ((es.take (j + 1)).map (mvE f t))) by rw [HS.out, List.map_take]; exact hown')
      have HK2 := Lib.hid (((HK1.out.alloc HK1.out.size _).alloc (by simp; omega) _).grown hgrow (by simp; omega) (fun g hg => (HO1.out.lt g hg).1))
      clear hown' hgrow HO1 HK1 hsz1
      go_wp2
      go_roundw
      case rel => exact ⟨j + 1, by omega, by go_num, HO2.out, HK2.out⟩
      case measure => simp [intOf]; omega
    · have hje : j = len := by omega
      subst hje
      have HO := Lib.hid hown
      have HK := Lib.hid hkp
      clear hown hkp hlt hj
      have hno : ¬ (j : Int) < (j : Int) := by omega
      go_wp2
      go_ret2
      refine ⟨_, rfl, ?_, HK.out⟩
      have h := HO.out
      rw [← HL.out, List.take_length] at h
      simpa using h

theorem through2_f {v r w : Int} (W : World) (b : EB v r w) (h : rightB v r w = false) (A : Option Addr) :
    Calls Try.prog 36 #[ent v r w, .slice A 2 2] W fun e w' => e = .returned (.tuple #[ent 0 0 0, .int .i64 2]) ∧ GrewS W w' := through_f W b h A 2 2
/-- Nothing, behind a call. -/
def AllNil (W : World) (e : Ending) (w' : World) : Prop := e = .returned (.tuple #[.slice none 0 0, .int .i64 2]) ∧ Kp W.heap.size W w'

set_option maxRecDepth 100000 in
set_option maxHeartbeats 1000000 in
theorem all_f {f t : Int} (W : World) (A : Option Addr) (len cap : Nat) (es : List E3) (hlen : es.length = len) (hmax : len ≤ 100) (hc : IsEnts W A len es) (hE : EBs es) (m : Nat) (hm : m < len) (hbad : rightE (es.getD m e0) = false)
    (hgood : ∀ i, i < m → rightE (es.getD i e0) = true) (f0 : 0 ≤ f ∧ f ≤ 18446744073709551615) (t0 : 0 ≤ t ∧ t ≤ 18446744073709551615) :
    Calls Try.prog 42 #[.slice A len cap, .int .u64 f, .int .u64 t] W (AllNil W) := by
  obtain ⟨i0, hi, hz0, hz1, hz2⟩ := info_parts ent_info
  have HI := Lib.hid hi
  have HZ0 := Lib.hid hz0
  have HZ1 := Lib.hid hz1
  have HZ2 := Lib.hid hz2
  have HL := Lib.hid hlen
  have HC := Lib.hid hc
  have HE := Lib.hid (fun i (h : i < len) => hE.at (i := i) (by omega))
  have HG := Lib.hid hgood
  have HB := Lib.hid hbad
  have HF := Lib.hid f0
  have HT := Lib.hid t0
  have hm1 : (len : Int) ≤ 100 := by omega
  clear hi hz0 hz1 hz2 hlen hc hE hgood hbad f0 t0
  go_enter Try.func42, Try.ntmps42
  go_wp2_with fail
  go_loopw [8, 15] (fun o i wr => ∃ j : Nat, j ≤ m ∧ i = .int .i64 j ∧ wr.ownsRow W.heap.size 25 3 o j (flat ((es.take j).map (mvE f t))) ∧ Kp W.heap.size W wr) (fun _ i _ => len - (intOf i).toNat)
  case atStart => exact ⟨0, Nat.zero_le _, rfl, World.ownsRow_nil _ _ _ _, Kp.refl _ _⟩
  case round =>
    obtain ⟨j, hj, rfl, hown, hkp⟩ := hrel
    have hlt : j < len := by omega
    obtain ⟨b, off, rfl, _, c0, c1, c2⟩ := (HC.out.kp hkp) j hlt
    have hb := HE.out j hlt
    have hS := take_snocE es j (by have := HL.out; omega)
    have hji : (j : Int) < len := by omega
    by_cases hjm : j < m
    · have hr := HG.out j hjm
      unfold rightE at hr
      obtain ⟨x, hx⟩ : ∃ x, x = es.getD j e0 := ⟨_, rfl⟩
      rw [← hx] at c0 c1 c2 hb hr hS
      obtain ⟨v, r, w⟩ := x
      dsimp only at c0 c1 c2 hb hr
      have hE2 : flat ((es.take (j + 1)).map (mvE f t)) = flat ((es.take j).map (mvE f t)) ++ flat [(mvV v f t, mvR v r f t, w)] := by
        rw [hS, List.map_append, flat_app]
        rfl
      have H := fun W p hc => Lib.hid (through2_t W hb hr HF.out HT.out p hc)
      have HS := Lib.hid hE2
      have HK := Lib.hid hkp
      have HO := Lib.hid hown
      generalize mvV v f t = V at *
      generalize mvR v r f t = R at *
      clear hS hE2 hb hr hx hown
      have hsz := hkp.size
      clear hkp
      go_wp2_with fail
      have P := C2.new (wr.alloc (.cells #[.int .u64 v, .int .u32 r, .int .u32 w] 25)) (.int .u64 f) (.int .u64 t) 22
      have hP : (wr.alloc (.cells #[.int .u64 v, .int .u32 r, .int .u32 w] 25)).heap.size = wr.heap.size + 1 := by simp
      rw [hP] at P
      have HP := Lib.hid P
      clear P hP
      refine (H _ _ HP.out).out.mono ?_
      rintro e w1 ⟨rfl, hg1⟩
      have HO1 := Lib.hid (own_kp HO.out (((Kp.refl _ wr).alloc (Nat.le_refl _) _).alloc (by simp) _ |>.trans (hg1.kp.mono (by simp; omega))))
      have HK1 := Lib.hid (((HK.out.alloc HK.out.size _).alloc (by simp; omega) _).trans (hg1.kp.mono (by simp; omega)))
      clear H HP hg1 c0 c1 c2 HO HK hsz
      have hsz1 := HK1.out.size
      go_wp2_with (at_builtin; refine wpList_append_rd _ rfl _ _ 44 rfl W.heap.size 25 i0 (.agg #[.int .u64 0, .int .u32 0, .int .u32 0]) 3 16 Try.underlying44 HI.out HZ0.out HZ1.out HZ2.out rfl (by decide) _ j (flat ((es.take j).map (mvE f t))) rfl ?qc1 (some ⟨w1.heap.size + 1, 0, none⟩) 1 1 (flat [(V, R, w)]) rfl ?qc2 (flat_one [(V, R, w)]) ?qc4 ?qc5 ?qc6 ?_)
      case qc1 => exact own_kp HO1.out (((Kp.refl _ w1).alloc (Nat.le_refl _) _).alloc (by simp) _)
      case qc2 => simpa using rd_ent (w1.alloc (.cells #[.int .u64 V, .int .u32 R, .int .u32 w] 25)) V R w 25
      case qc4 => unfold maxLen; omega
      case qc5 => omega
      case qc6 => simp; omega
      intro v' w2 hown' hgrow
      have HO2 := Lib.hid (show w2.ownsRow W.heap.size 25 3 v' (j + 1) (flat ((es.take (j + 1)).map (mvE f t))) by rw [HS.out, List.map_take]; exact hown')
      have HK2 := Lib.hid (((HK1.out.alloc HK1.out.size _).alloc (by simp; omega) _).grown hgrow (by simp; omega) (fun g hg => (HO1.out.lt g hg).1))
      clear hown' hgrow HO1 HK1 hsz1
      go_wp2
      go_roundw
      case rel => exact ⟨j + 1, by omega, by go_num, HO2.out, HK2.out⟩
      case measure => simp [intOf]; omega
    · have hje : j = m := by omega
      have hr := HB.out
      rw [← hje] at hr
      unfold rightE at hr
      generalize (es.getD j e0).1 = v at *
      generalize (es.getD j e0).2.1 = r at *
      generalize (es.getD j e0).2.2 = w at *
      have H := fun W A => Lib.hid (through2_f W hb hr A)
      have HK := Lib.hid hkp
      have hsz := hkp.size
      clear hb hr hown hkp hS hje hjm hj
      go_wp2_with fail
      refine (H _ _).out.mono ?_
      rintro e w1 ⟨rfl, hg1⟩
      have HK1 := Lib.hid (((HK.out.alloc HK.out.size _).alloc (by simp; omega) _).trans (hg1.kp.mono (by simp; omega)))
      clear H hg1 c0 c1 c2 HK hsz
      have hsz1 := HK1.out.size
      go_wp2
      go_ret2
      exact ⟨rfl, HK1.out.alloc hsz1 _⟩
end Go.Proofs.Ytmlapjaccmoleaa
