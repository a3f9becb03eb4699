/-
  The contract of Path.
-/
import Derived.Test.YtjffikiebeneaaaParts17
namespace Go.Proofs.Ytjffikiebeneaaa
open Go.RowKit

theorem C2.kpB {w w' : World} {B b : Nat} {x y : Value} (h : C2 w b x y) (k : Kp B w w') (hb : b < B) : C2 w' b x y :=
  ⟨(k.cell (p := ⟨b, 0, none⟩) hb).trans h.c0, (k.cell (p := ⟨b, 1, none⟩) hb).trans h.c1, Nat.lt_of_lt_of_le h.lt k.size⟩
theorem Fz.kpB {w w' : World} {B b : Nat} (h : Fz w b) (k : Kp B w w') (hb : b < B) : Fz w' b := ⟨Nat.lt_of_lt_of_le h.1 k.size, fun o => (k.frozen (p := ⟨b, o, none⟩) hb).trans (h.2 o)⟩
theorem IsPrs.kpB {W w : World} {B : Nat} {A : Option Addr} {len : Nat} {es : List P2} (h : IsPrs W A len es) (hk : Kp B W w) (hB : W.heap.size ≤ B) : IsPrs w A len es := h.kp (hk.mono hB)
/-- The share that a fold gives, behind a call that may have written rows of its own. -/
def ShPost (W : World) (r : Int × Int × Int) (e : Ending) (w' : World) : Prop := e = .returned (.tuple #[shr r.1 r.2.1, .int .i64 r.2.2]) ∧ Kp W.heap.size W w'
theorem levB_of {v : P2} (h : levB v = true) : 1 ≤ v.2 ∧ v.2 ≤ 2147483648 ∧ 0 ≤ v.1 ∧ v.1 ≤ v.2 := of_decide_eq_true h
theorem levB_not {v : P2} (h : levB v = false) : (v.2 < 1 ∨ 2147483648 < v.2) ∨ (1 ≤ v.2 ∧ v.2 ≤ 2147483648 ∧ (v.1 < 0 ∨ v.2 < v.1)) := by
  have := of_decide_eq_false h
  omega
theorem lev_of {v : P2} (h : levB v = true) : ofE v.1 v.2 = 0 := by
  obtain ⟨h1, h2, h3, h4⟩ := levB_of h
  exact (of_fits h3 (by omega) (by omega) h2).1

set_option maxRecDepth 100000 in
set_option maxHeartbeats 2000000 in
theorem path_t (W : World) (A : Option Addr) (len cap : Nat) (es : List P2) (hlen : es.length = len) (hmax : len ≤ 100) (hc : IsPrs W A len es) (hg : es.all levB = true) :
    Calls Try.prog 27 #[.slice A len cap] W (ShPost W (path3 es)) := by
  obtain ⟨i0, hi, hz0, hz1, hz2⟩ := info_parts shr_info
  have HI := Lib.hid hi
  have HZ0 := Lib.hid hz0
  have HZ1 := Lib.hid hz1
  have HZ2 := Lib.hid hz2
  have HL := Lib.hid hlen
  have HC := Lib.hid hc
  clear hi hz0 hz1 hz2 hc
  have hm : (len : Int) ≤ 100 := by omega
  have HG := Lib.hid (show ∀ i, i < len → levB (es.getD i p0) = true from fun i hi => all_at p0 hg (by omega))
  have e1 : path3 es = foldS times3 1 1 (es.map of2) := by unfold path3; rw [hg]; rfl
  have HFo := fun w (A : Option Addr) (cap : Nat) (hc : IsPrs w A len (es.map of2)) => Lib.hid (fold_any (F := 16) (Or.inr rfl) (op := times3) (fun a b c d W => times_any a b c d W) 1 1 w A len cap (es.map of2) (by rw [List.length_map]; exact hlen) (by omega) hc)
  rw [e1]
  generalize foldS times3 1 1 (es.map of2) = r at *
  obtain ⟨rn, rd, re⟩ := r
  dsimp only at HFo
  have HFF := Lib.hid HFo
  clear HFo e1 hg hlen
  go_enter Try.func27, Try.ntmps27
  go_wp2_with fail
  have hR : C2 (W.alloc (.cells #[.int .i64 0, .int .i64 0] 25)) W.heap.size (.int .i64 0) (.int .i64 0) := C2.new W _ _ _
  have hF : Fz (W.alloc (.cells #[.int .i64 0, .int .i64 0] 25)) W.heap.size := Fz.new W _ _
  have hK : Kp W.heap.size W (W.alloc (.cells #[.int .i64 0, .int .i64 0] 25)) := (Kp.refl _ _).alloc (Nat.le_refl _) _
  have HW1 := Lib.hid (show (W.alloc (.cells #[.int .i64 0, .int .i64 0] 25)).heap.size = W.heap.size + 1 by simp)
  replace HC := Lib.hid (HC.out.kp hK)
  generalize W.alloc (.cells #[.int .i64 0, .int .i64 0] 25) = W1 at *
  have HR0 := Lib.hid hR
  have HF0 := Lib.hid hF
  have HK0 := Lib.hid hK
  clear hR hF hK
  go_loopw [4, 11] (fun o i wr => ∃ j : Nat, j ≤ len ∧ i = .int .i64 j ∧ wr.ownsRow (W.heap.size + 1) 25 2 o j (flat ((es.take j).map of2)) ∧ Kp (W.heap.size + 1) W1 wr) (fun _ i _ => len - (intOf i).toNat)
  case atStart => exact ⟨0, Nat.zero_le _, rfl, World.ownsRow_nil _ _ _ _, Kp.refl _ _⟩
  case round =>
    obtain ⟨j, hj, rfl, hown, hkp⟩ := hrel
    by_cases hlt : j < len
    · obtain ⟨b, off, rfl, hb, c0, c1⟩ := (HC.out.kp (hkp.mono (by rw [HW1.out]; exact Nat.le_refl _))) j hlt
      have hl := HG.out j hlt
      have hji : (j : Int) < len := by omega
      have hS1 := take_snocP es j (by have := HL.out; omega)
      have hE0 := lev_of hl
      obtain ⟨l0, l1, l2, l3⟩ := levB_of hl
      have hof : of2 (es.getD j p0) = (ofN (es.getD j p0).1 (es.getD j p0).2, ofD (es.getD j p0).1 (es.getD j p0).2) := rfl
      have hE2 : flat ((es.take (j + 1)).map of2) = flat ((es.take j).map of2) ++ flat [(ofN (es.getD j p0).1 (es.getD j p0).2, ofD (es.getD j p0).1 (es.getD j p0).2)] := by
        rw [hS1, List.map_append, flat_app, ← hof]
        rfl
      have H' := fun W => of_any (n := (es.getD j p0).1) (d := (es.getD j p0).2) W (by omega) (by omega)
      rw [hE0] at H'
      generalize ofN (es.getD j p0).1 (es.getD j p0).2 = zn at *
      generalize ofD (es.getD j p0).1 (es.getD j p0).2 = zd at *
      generalize (es.getD j p0).1 = v0 at *
      generalize (es.getD j p0).2 = v1 at *
      have H := fun W => Lib.hid (H' W)
      have HS := Lib.hid hE2
      have HK := Lib.hid hkp
      have HO := Lib.hid hown
      have hsz := hkp.size
      have hsw : W1.heap.size = W.heap.size + 1 := HW1.out
      clear hS1 hE0 hE2 hkp hown H' hof hl
      go_wp2_with fail
      refine (in_t (n := v1) _ l0 l1).mono ?_
      rintro e w1 ⟨rfl, rfl⟩
      go_wp2_with fail
      refine (in_t (n := v0) _ l2 l3).mono ?_
      rintro e w1 ⟨rfl, rfl⟩
      go_wp2_with fail
      refine (H _).out.mono ?_
      rintro e w1 ⟨rfl, hg1⟩
      have HG1 := ((GrewS.refl wr).alloc _).trans hg1
      have HO1 := Lib.hid (own_kp HO.out HG1.kp)
      have HK1 := Lib.hid (HK.out.trans (HG1.kp.mono (by omega)))
      clear H hg1 c0 c1 HO HK hsz HG1
      have hsz1 := HK1.out.size
      rw [HW1.out] at hsz1
      go_wp2_with (at_builtin; refine wpList_append_rd _ rfl _ _ 44 rfl (W.heap.size + 1) 25 i0 (.agg #[.int .i64 0, .int .i64 0]) 2 16 Try.underlying44 HI.out HZ0.out HZ1.out HZ2.out rfl (by decide) _ j (flat ((es.take j).map of2)) rfl ?qc1 (some ⟨w1.heap.size + 1, 0, none⟩) 1 1 (flat [(zn, zd)]) rfl ?qc2 (flat_one [(zn, zd)]) ?qc4 ?qc5 ?qc6 ?_)
      case qc1 => exact own_kp HO1.out (((Kp.refl _ w1).alloc (Nat.le_refl _) _).alloc (by simp) _)
      case qc2 => simpa using rd_pair (w1.alloc (.cells #[.int .i64 zn, .int .i64 zd] 25)) zn zd 25
      case qc4 => unfold maxLen; omega
      case qc5 => omega
      case qc6 => simp; omega
      intro v' w2 hown' hgrow
      have HO2 := Lib.hid (show w2.ownsRow (W.heap.size + 1) 25 2 v' (j + 1) (flat ((es.take (j + 1)).map of2)) by rw [HS.out, List.map_take]; exact hown')
      have HK2 := Lib.hid (((HK1.out.alloc hsz1 _).alloc (by simp; omega) _).grown hgrow (by simp; omega) (fun g hg => (HO1.out.lt g hg).1))
      clear hown' hgrow HO1 HK1 hsz1
      go_wp2
      go_roundw
      case rel => exact ⟨j + 1, by omega, by go_num, HO2.out, HK2.out⟩
      case measure => simp [intOf]; omega
    · have hje : j = len := by omega
      subst hje
      have hno : ¬ (j : Int) < j := by omega
      obtain ⟨B, c, rfl, _, _, _, hrd, _⟩ := own_form hown
      have hte : es.take j = es := by rw [← HL.out, List.take_length]
      rw [hte] at hrd
      have HP := Lib.hid (show IsPrs wr B j (es.map of2) from hrd.prs (by rw [List.length_map]; exact HL.out))
      clear hte
      have R := HR0.out.kpB hkp (Nat.lt_succ_self _)
      have F := HF0.out.kpB hkp (Nat.lt_succ_self _)
      have HK := Lib.hid (HK0.out.trans (hkp.mono (Nat.le_succ _)))
      clear hown hkp hrd hlt hj
      go_wp2_with fail
      refine (HFF.out _ _ _ HP.out).out.mono ?_
      rintro e w2 ⟨rfl, hg1⟩
      replace R := R.kp hg1.kp
      replace F := F.kp hg1.kp
      have HK2 := Lib.hid (HK.out.trans (hg1.kp.mono HK.out.size))
      clear hg1 HP HFF HK
      have R0 := R.c0
      have R1 := R.c1
      have F2 := F.2
      go_wp2_with fail
      exact bodyPost_ret (v := .tuple #[shr rn rd, .int .i64 re]) (by simp [results, Try.results27, go_sem, R0, R1]) rfl ⟨rfl, (HK2.out.setCell (p := ⟨W.heap.size, 0, none⟩) (Nat.le_refl _) _).setCell (p := ⟨W.heap.size, 1, none⟩) (Nat.le_refl _) _⟩

set_option maxRecDepth 100000 in
set_option maxHeartbeats 2000000 in
theorem path_f (W : World) (A : Option Addr) (len cap : Nat) (es : List P2) (hlen : es.length = len) (hmax : len ≤ 100) (hc : IsPrs W A len es) (hg : es.all levB = false) :
    Calls Try.prog 27 #[.slice A len cap] W (ShPost W (path3 es)) := by
  obtain ⟨i0, hi, hz0, hz1, hz2⟩ := info_parts shr_info
  have HI := Lib.hid hi
  have HZ0 := Lib.hid hz0
  have HZ1 := Lib.hid hz1
  have HZ2 := Lib.hid hz2
  have HL := Lib.hid hlen
  have HC := Lib.hid hc
  clear hi hz0 hz1 hz2 hc
  have hm : (len : Int) ≤ 100 := by omega
  have e1 : path3 es = (0, 0, 2) := by unfold path3; rw [hg]; rfl
  rw [e1]
  obtain ⟨m, hm1, hbm, hgm⟩ := first_not p0 levB es hg
  rw [hlen] at hm1
  have HG := Lib.hid hgm
  have HB := Lib.hid (levB_not hbm)
  clear e1 hg hlen hbm hgm
  go_enter Try.func27, Try.ntmps27
  go_wp2_with fail
  have hR : C2 (W.alloc (.cells #[.int .i64 0, .int .i64 0] 25)) W.heap.size (.int .i64 0) (.int .i64 0) := C2.new W _ _ _
  have hF : Fz (W.alloc (.cells #[.int .i64 0, .int .i64 0] 25)) W.heap.size := Fz.new W _ _
  have hK : Kp W.heap.size W (W.alloc (.cells #[.int .i64 0, .int .i64 0] 25)) := (Kp.refl _ _).alloc (Nat.le_refl _) _
  have HW1 := Lib.hid (show (W.alloc (.cells #[.int .i64 0, .int .i64 0] 25)).heap.size = W.heap.size + 1 by simp)
  replace HC := Lib.hid (HC.out.kp hK)
  generalize W.alloc (.cells #[.int .i64 0, .int .i64 0] 25) = W1 at *
  have HR0 := Lib.hid hR
  have HF0 := Lib.hid hF
  have HK0 := Lib.hid hK
  clear hR hF hK
  go_loopw [4, 11] (fun o i wr => ∃ j : Nat, j ≤ m ∧ i = .int .i64 j ∧ wr.ownsRow (W.heap.size + 1) 25 2 o j (flat ((es.take j).map of2)) ∧ Kp (W.heap.size + 1) W1 wr) (fun _ i _ => len - (intOf i).toNat)
  case atStart => exact ⟨0, Nat.zero_le _, rfl, World.ownsRow_nil _ _ _ _, Kp.refl _ _⟩
  case round =>
    obtain ⟨j, hj, rfl, hown, hkp⟩ := hrel
    have hji : (j : Int) < len := by omega
    obtain ⟨b, off, rfl, hb, c0, c1⟩ := (HC.out.kp (hkp.mono (by rw [HW1.out]; exact Nat.le_refl _))) j (by omega)
    by_cases hlt : j < m
    · have hl := HG.out j hlt
      have hS1 := take_snocP es j (by have := HL.out; omega)
      have hE0 := lev_of hl
      obtain ⟨l0, l1, l2, l3⟩ := levB_of hl
      have hof : of2 (es.getD j p0) = (ofN (es.getD j p0).1 (es.getD j p0).2, ofD (es.getD j p0).1 (es.getD j p0).2) := rfl
      have hE2 : flat ((es.take (j + 1)).map of2) = flat ((es.take j).map of2) ++ flat [(ofN (es.getD j p0).1 (es.getD j p0).2, ofD (es.getD j p0).1 (es.getD j p0).2)] := by
        rw [hS1, List.map_append, flat_app, ← hof]
        rfl
      have H' := fun W => of_any (n := (es.getD j p0).1) (d := (es.getD j p0).2) W (by omega) (by omega)
      rw [hE0] at H'
      generalize ofN (es.getD j p0).1 (es.getD j p0).2 = zn at *
      generalize ofD (es.getD j p0).1 (es.getD j p0).2 = zd at *
      generalize (es.getD j p0).1 = v0 at *
      generalize (es.getD j p0).2 = v1 at *
      have H := fun W => Lib.hid (H' W)
      have HS := Lib.hid hE2
      have HK := Lib.hid hkp
      have HO := Lib.hid hown
      have hsz := hkp.size
      have hsw : W1.heap.size = W.heap.size + 1 := HW1.out
      clear hS1 hE0 hE2 hkp hown H' hof hl
      go_wp2_with fail
      refine (in_t (n := v1) _ l0 l1).mono ?_
      rintro e w1 ⟨rfl, rfl⟩
      go_wp2_with fail
      refine (in_t (n := v0) _ l2 l3).mono ?_
      rintro e w1 ⟨rfl, rfl⟩
      go_wp2_with fail
      refine (H _).out.mono ?_
      rintro e w1 ⟨rfl, hg1⟩
      have HG1 := ((GrewS.refl wr).alloc _).trans hg1
      have HO1 := Lib.hid (own_kp HO.out HG1.kp)
      have HK1 := Lib.hid (HK.out.trans (HG1.kp.mono (by omega)))
      clear H hg1 c0 c1 HO HK hsz HG1
      have hsz1 := HK1.out.size
      rw [HW1.out] at hsz1
      go_wp2_with (at_builtin; refine wpList_append_rd _ rfl _ _ 44 rfl (W.heap.size + 1) 25 i0 (.agg #[.int .i64 0, .int .i64 0]) 2 16 Try.underlying44 HI.out HZ0.out HZ1.out HZ2.out rfl (by decide) _ j (flat ((es.take j).map of2)) rfl ?qc1 (some ⟨w1.heap.size + 1, 0, none⟩) 1 1 (flat [(zn, zd)]) rfl ?qc2 (flat_one [(zn, zd)]) ?qc4 ?qc5 ?qc6 ?_)
      case qc1 => exact own_kp HO1.out (((Kp.refl _ w1).alloc (Nat.le_refl _) _).alloc (by simp) _)
      case qc2 => simpa using rd_pair (w1.alloc (.cells #[.int .i64 zn, .int .i64 zd] 25)) zn zd 25
      case qc4 => unfold maxLen; omega
      case qc5 => omega
      case qc6 => simp; omega
      intro v' w2 hown' hgrow
      have HO2 := Lib.hid (show w2.ownsRow (W.heap.size + 1) 25 2 v' (j + 1) (flat ((es.take (j + 1)).map of2)) by rw [HS.out, List.map_take]; exact hown')
      have HK2 := Lib.hid (((HK1.out.alloc hsz1 _).alloc (by simp; omega) _).grown hgrow (by simp; omega) (fun g hg => (HO1.out.lt g hg).1))
      clear hown' hgrow HO1 HK1 hsz1
      go_wp2
      go_roundw
      case rel => exact ⟨j + 1, by omega, by go_num, HO2.out, HK2.out⟩
      case measure => simp [intOf]; omega
    · have hje : j = m := by omega
      subst hje
      have hw := HB.out
      generalize (es.getD j p0).1 = v0 at *
      generalize (es.getD j p0).2 = v1 at *
      have R := HR0.out.kpB hkp (Nat.lt_succ_self _)
      have F := HF0.out.kpB hkp (Nat.lt_succ_self _)
      have HK := Lib.hid (HK0.out.trans (hkp.mono (Nat.le_succ _)))
      have R0 := R.c0
      have R1 := R.c1
      have Rl := R.lt
      have F2 := F.2
      have hsz : W.heap.size ≤ wr.heap.size := HK.out.size
      clear hown hkp R F
      rcases hw with hw | ⟨h1, h2, hw⟩
      · go_wp2_with fail
        refine (in_f (n := v1) (l := 1) (h := 2147483648) _ hw).mono ?_
        rintro e w1 ⟨rfl, rfl⟩
        go_wp2_with fail
        exact bodyPost_ret (v := .tuple #[shr 0 0, .int .i64 2]) (by simp [results, Try.results27, go_sem, R0, R1, Rl]) rfl ⟨rfl, by
          repeat with_reducible first | exact HK.out | (refine Kp.alloc ?_ (by simp; omega) _) | (refine Kp.setCell ?_ (by first | (simp; done) | (simp; omega)) _)⟩
      · go_wp2_with fail
        refine (in_t (n := v1) (l := 1) (h := 2147483648) _ h1 h2).mono ?_
        rintro e w1 ⟨rfl, rfl⟩
        go_wp2_with fail
        refine (in_f (n := v0) (l := 0) (h := v1) _ hw).mono ?_
        rintro e w1 ⟨rfl, rfl⟩
        go_wp2_with fail
        exact bodyPost_ret (v := .tuple #[shr 0 0, .int .i64 2]) (by simp [results, Try.results27, go_sem, R0, R1, Rl]) rfl ⟨rfl, by
          repeat with_reducible first | exact HK.out | (refine Kp.alloc ?_ (by simp; omega) _) | (refine Kp.setCell ?_ (by first | (simp; done) | (simp; omega)) _)⟩
theorem path_any (W : World) (A : Option Addr) (len cap : Nat) (es : List P2) (hlen : es.length = len) (hmax : len ≤ 100) (hc : IsPrs W A len es) : Calls Try.prog 27 #[.slice A len cap] W (ShPost W (path3 es)) := by
  cases h : es.all levB
  · exact path_f W A len cap es hlen hmax hc h
  · exact path_t W A len cap es hlen hmax hc h
end Go.Proofs.Ytjffikiebeneaaa
