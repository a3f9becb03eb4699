/-
  The library's Clone and Equal at slices of numbers and of pairs; the laws' own 'same' and 'weights'.
-/
import Derived.Test.YtjffikiebeneaaaRefSu17
import Derived.OpenShut
namespace Go.Proofs.Ytjffikiebeneaaa
open Go.RowKit

/-- A fresh block, read as a slice. -/
theorem rd_new (w : World) (xs : List Value) (t : TypeId) (sz n : Nat) (h : xs.length = n * sz) : Rd (w.alloc (.cells xs.toArray t)) sz (some ⟨w.heap.size, 0, none⟩) n xs := by
  refine ⟨h, fun j u hu => ⟨w.heap.size, 0, rfl, by simp, ?_⟩⟩
  rw [cell_of_row _ w.heap.size (0 + j) xs.toArray t (0, 0) (heap_alloc_new w _), Nat.zero_add]
  rw [← Array.getElem?_toList]
  exact hu
theorem int_info : (Try.prog.info? 3).map (fun i => (i.zero, i.size, i.bytes)) = some (some (.int .i64 0), 1, 8) := by kernel_rfl
theorem lev_info : (Try.prog.info? 55).map (fun i => (i.zero, i.size, i.bytes)) = some (some (.agg #[.int .i64 0, .int .i64 0]), 2, 16) := by kernel_rfl
theorem oneCells' {k : IntKind} (l : List Int) : ∀ u ∈ l.map (Value.int k), u.oneCell' = true := by
  intro u hu
  obtain ⟨z, _, rfl⟩ := List.mem_map.1 hu
  rfl

theorem eq_lev (w : World) (x y : Int) : (Op.equalIn 10000 55 (.agg #[.int .i64 x, .int .i64 y]) (.agg #[.int .i64 x, .int .i64 y])).run Try.prog w = .ok true w := by
  have hsz : ∀ w, (sizeOf 3).run Try.prog w = .ok 1 w := fun w => by kernel_rfl
  have p0 : ∀ w a b, (part 3 #[.int .i64 a, .int .i64 b] 0).run Try.prog w = .ok (.int .i64 a) w := fun w a b => by
    simp [part, isAgg, run_underlying Try.underlying3]
  have p1 : ∀ w a b, (part 3 #[.int .i64 a, .int .i64 b] 1).run Try.prog w = .ok (.int .i64 b) w := fun w a b => by
    simp [part, isAgg, run_underlying Try.underlying3]
  have pe : ∀ w a, (Op.equalIn (9998 + 1) 3 (.int .i64 a) (.int .i64 a)).run Try.prog w = .ok true w := fun w a => by
    rw [run_equalIn_int w 9998 3 .i64 .i64 _ _ Try.underlying3]
    simp
  show (Op.equalIn (9998 + 2) 55 _ _).run Try.prog w = _
  rw [Op.equalIn]
  simp [Sem.run_bind, run_underlying Try.underlying55, Result.andThen_ok, hsz, p0, p1, pe, Std.Legacy.Range.forIn_eq_forIn_range', Std.Legacy.Range.size, List.range'_succ]

set_option maxRecDepth 100000 in
theorem cloneI_any (W : World) (A : Option Addr) (len cap : Nat) (zs : List Int) (hlen : zs.length = len) (hcap : A = none → cap = 0 ∧ len = 0) (hc : IsInts W .i64 A len zs) (hbig : len * 8 ≤ 140737488355328) :
    Calls Try.prog 31 #[.slice A len cap] W (OwnPost W 3 1 len (zs.map (Value.int .i64))) := by
  have q : ∀ (w : World) (a : Option Addr) (n c n' c' : Nat), (binOp .eql 38 (.slice a n c) (.slice none n' c')).run Try.prog w = .ok (.bool a.isNone) w := fun w a n c n' c' => Lib.run_eql_slice_nil w _ _ a n c n' c' Try.underlying38
  obtain ⟨i0, hi, hz0, hz1, hz2⟩ := info_parts int_info
  have HR := Lib.hid (Rd.ints hlen hc)
  have HL := Lib.hid hlen
  clear hc hlen
  rcases A with _ | ad
  · obtain ⟨rfl, rfl⟩ := hcap rfl
    have HX := Lib.hid (show (zs.map (Value.int .i64)) = [] by rw [List.eq_nil_of_length_eq_zero HL.out]; rfl)
    go_enter Try.func31, Try.ntmps31
    go_wp2
    go_ret
    exact ⟨_, rfl, by rw [HX.out]; exact World.ownsRow_nil _ _ _ _, Kp.refl _ _⟩
  · clear hcap
    go_enter Try.func31, Try.ntmps31
    go_wp2_with (at_builtin; refine wpList_append_rd _ rfl _ _ 38 rfl W.heap.size 3 i0 (.int .i64 0) 1 8 Try.underlying38 hi hz0 hz1 hz2 rfl (by decide) _ _ _ rfl (World.ownsRow_made W #[] 0 (Nat.le_refl _) (Nat.zero_le _) rfl) (some ad) len cap (zs.map (Value.int .i64)) rfl ?qc2 (oneCells' zs) ?qc4 ?qc5 ?qc6 ?_)
    case qc2 => exact HR.out.kp ((Kp.refl _ _).alloc (Nat.le_refl _) _)
    case qc4 => unfold maxLen; omega
    case qc5 => omega
    case qc6 => simp
    intro v' w1 hown hgrow
    go_wp2
    go_ret
    refine ⟨v', rfl, by simpa using hown, ?_⟩
    exact ((Kp.refl _ W).alloc (Nat.le_refl _) _).grown hgrow (by simp) (by intro k hk; simp [Value.ownBlock] at hk; omega)

set_option maxRecDepth 100000 in
theorem cloneP_any (W : World) (A : Option Addr) (len cap : Nat) (es : List P2) (hlen : es.length = len) (hcap : A = none → cap = 0 ∧ len = 0) (hc : IsPrs W A len es) (hbig : len * 16 ≤ 140737488355328) :
    Calls Try.prog 32 #[.slice A len cap] W (OwnPost W 55 2 len (flat es)) := by
  have q : ∀ (w : World) (a : Option Addr) (n c n' c' : Nat), (binOp .eql 39 (.slice a n c) (.slice none n' c')).run Try.prog w = .ok (.bool a.isNone) w := fun w a n c n' c' => Lib.run_eql_slice_nil w _ _ a n c n' c' Try.underlying39
  obtain ⟨i0, hi, hz0, hz1, hz2⟩ := info_parts lev_info
  have HR := Lib.hid (hc.rd hlen)
  have HL := Lib.hid hlen
  clear hc hlen
  rcases A with _ | ad
  · obtain ⟨rfl, rfl⟩ := hcap rfl
    have HX := Lib.hid (show (flat es) = [] by rw [List.eq_nil_of_length_eq_zero HL.out]; rfl)
    go_enter Try.func32, Try.ntmps32
    go_wp2
    go_ret
    exact ⟨_, rfl, by rw [HX.out]; exact World.ownsRow_nil _ _ _ _, Kp.refl _ _⟩
  · clear hcap
    go_enter Try.func32, Try.ntmps32
    go_wp2_with (at_builtin; refine wpList_append_rd _ rfl _ _ 39 rfl W.heap.size 55 i0 (.agg #[.int .i64 0, .int .i64 0]) 2 16 Try.underlying39 hi hz0 hz1 hz2 rfl (by decide) _ _ _ rfl (World.ownsRow_made W #[] 0 (Nat.le_refl _) (Nat.zero_le _) rfl) (some ad) len cap (flat es) rfl ?qc2 (flat_one es) ?qc4 ?qc5 ?qc6 ?_)
    case qc2 => exact HR.out.kp ((Kp.refl _ _).alloc (Nat.le_refl _) _)
    case qc4 => unfold maxLen; omega
    case qc5 => omega
    case qc6 => simp
    intro v' w1 hown hgrow
    go_wp2
    go_ret
    refine ⟨v', rfl, by simpa using hown, ?_⟩
    exact ((Kp.refl _ W).alloc (Nat.le_refl _) _).grown hgrow (by simp) (by intro k hk; simp [Value.ownBlock] at hk; omega)

set_option maxRecDepth 100000 in
set_option maxHeartbeats 400000 in
theorem equalS_same (W : World) (A B : Option Addr) (len c d : Nat) (es : List P2) (hmax : (len : Int) ≤ 3000000000000000000) (ha : IsPrs W A len es) (hb : IsPrs W B len es) :
    Calls Try.prog 29 #[.slice A len c, .slice B len d] W fun e w' => e = .returned (.bool true) ∧ ∃ n, w' = W.drewN n := by
  have HA := Lib.hid ha
  have HB := Lib.hid hb
  clear ha hb
  go_enter Try.func29, Try.ntmps29
  go_wp2
  go_loopw [13] (fun i wr => ∃ k : Nat, k ≤ len ∧ i = .int .i64 k ∧ ∃ n, wr = W.drewN n) (fun i _ => len - (intOf i).toNat)
  case atStart => exact ⟨0, Nat.zero_le _, rfl, 0, rfl⟩
  case round =>
    obtain ⟨k, hk, rfl, n, rfl⟩ := hrel
    by_cases hlt : (k : Int) < len
    · obtain ⟨b, off, rfl, _, c0, c1⟩ := HA.out k (by omega)
      obtain ⟨b', off', rfl, _, d0, d1⟩ := HB.out k (by omega)
      generalize (es.getD k p0).1 = x at *
      generalize (es.getD k p0).2 = y at *
      go_wp2
      go_quiet (fail)
      go_wp2
      go_roundw
      case rel => exact ⟨k + 1, by omega, by go_num, _, rfl⟩
      case measure => simp [intOf]; omega
    · go_wp2
      go_ret
      exact ⟨rfl, _, rfl⟩

set_option maxRecDepth 100000 in
set_option maxHeartbeats 400000 in
theorem equalI_same (W : World) (A B : Option Addr) (len c d : Nat) (zs : List Int) (hmax : (len : Int) ≤ 3000000000000000000) (ha : IsInts W .i64 A len zs) (hb : IsInts W .i64 B len zs) :
    Calls Try.prog 36 #[.slice A len c, .slice B len d] W fun e w' => e = .returned (.bool true) ∧ ∃ n, w' = W.drewN n := by
  have HA := Lib.hid ha
  have HB := Lib.hid hb
  clear ha hb
  go_enter Try.func36, Try.ntmps36
  go_wp2
  go_loopw [13] (fun i wr => ∃ k : Nat, k ≤ len ∧ i = .int .i64 k ∧ ∃ n, wr = W.drewN n) (fun i _ => len - (intOf i).toNat)
  case atStart => exact ⟨0, Nat.zero_le _, rfl, 0, rfl⟩
  case round =>
    obtain ⟨k, hk, rfl, n, rfl⟩ := hrel
    by_cases hlt : (k : Int) < len
    · obtain ⟨b, off, rfl, _, c0⟩ := HA.out k (by omega)
      obtain ⟨b', off', rfl, _, d0⟩ := HB.out k (by omega)
      generalize zs.getD k 0 = z at *
      go_wp2
      go_quiet (fail)
      go_wp2
      go_roundw
      case rel => exact ⟨k + 1, by omega, by go_num, _, rfl⟩
      case measure => simp [intOf]; omega
    · go_wp2
      go_ret
      exact ⟨rfl, _, rfl⟩

set_option maxRecDepth 100000 in
set_option maxHeartbeats 400000 in
theorem equalL_same (W : World) (A B : Option Addr) (len c d : Nat) (es : List P2) (hmax : (len : Int) ≤ 3000000000000000000) (ha : IsPrs W A len es) (hb : IsPrs W B len es) :
    Calls Try.prog 37 #[.slice A len c, .slice B len d] W fun e w' => e = .returned (.bool true) ∧ ∃ n, w' = W.drewN n := by
  have HA := Lib.hid ha
  have HB := Lib.hid hb
  clear ha hb
  have q := eq_lev
  go_enter Try.func37, Try.ntmps37
  go_wp2
  go_loopw [13] (fun i wr => ∃ k : Nat, k ≤ len ∧ i = .int .i64 k ∧ ∃ n, wr = W.drewN n) (fun i _ => len - (intOf i).toNat)
  case atStart => exact ⟨0, Nat.zero_le _, rfl, 0, rfl⟩
  case round =>
    obtain ⟨k, hk, rfl, n, rfl⟩ := hrel
    by_cases hlt : (k : Int) < len
    · obtain ⟨b, off, rfl, _, c0, c1⟩ := HA.out k (by omega)
      obtain ⟨b', off', rfl, _, d0, d1⟩ := HB.out k (by omega)
      generalize (es.getD k p0).1 = x at *
      generalize (es.getD k p0).2 = y at *
      go_wp2
      go_quiet (fail)
      go_wp2
      go_roundw
      case rel => exact ⟨k + 1, by omega, by go_num, _, rfl⟩
      case measure => simp [intOf]; omega
    · go_wp2
      go_ret
      exact ⟨rfl, _, rfl⟩

theorem same_any (a b e : Int) (W : World) : Calls Try.prog 35 #[shr a b, .int .i64 e, shr a b, .int .i64 e] W fun r w' => r = .returned (.bool true) ∧ GrewS W w' := by
  go_enter Try.func35, Try.ntmps35
  go_wp2_with fail
  go_ret
  exact ⟨by first | rfl | (simp; done), ((GrewS.refl W).alloc _).alloc _⟩

/-- The weights that the laws make of bytes. -/
def wgt (l : List Int) : List Int := (l.take 12).map fun u => 1 + u % 200
theorem wgt_len (l : List Int) : (wgt l).length = min 12 l.length := by unfold wgt; rw [List.length_map, List.length_take]
theorem getD_take (l : List Int) (n j : Nat) (h : j < n) : (l.take n).getD j 0 = l.getD j 0 := by
  rw [List.getD_eq_getElem?_getD, List.getD_eq_getElem?_getD, List.getElem?_take, if_pos h]

set_option maxRecDepth 100000 in
set_option maxHeartbeats 1000000 in
theorem weights_any (W : World) (A : Option Addr) (len cap : Nat) (l : List Int) (hlen : l.length = len) (hcap : len ≤ cap) (hcm : (cap : Int) ≤ 9223372036854775807) (hc : IsInts W .u8 A len l) (hwf : ∀ n ∈ l, (Lit.int .u8 n).wf = true) :
    Calls Try.prog 22 #[.slice A len cap] W (OwnPost W 3 1 (wgt l).length ((wgt l).map (Value.int .i64))) := by
  obtain ⟨i0, hi, hz0, hz1, hz2⟩ := info_parts int_info
  have HI := Lib.hid hi
  have HZ0 := Lib.hid hz0
  have HZ1 := Lib.hid hz1
  have HZ2 := Lib.hid hz2
  have HL := Lib.hid hlen
  have HC := Lib.hid hc
  have HW := Lib.hid (show ∀ i, i < len → 0 ≤ l.getD i 0 ∧ l.getD i 0 ≤ 255 by
    intro i hi
    have h := hwf (l.getD i 0) (by rw [List.getD_eq_getElem?_getD, List.getElem?_eq_getElem (by omega)]; exact List.getElem_mem _)
    exact bounds_u8 h)
  obtain ⟨m, hm⟩ : ∃ m, m = min 12 len := ⟨_, rfl⟩
  have hm1 : m ≤ 12 := by omega
  have hm2 : m ≤ len := by omega
  have hm4 : (wgt l).length = m := by rw [wgt_len, hlen, hm]
  have HWL := Lib.hid hm4
  have HG := Lib.hid (show ∀ i, i < m → (wgt l).getD i 0 = 1 + l.getD i 0 % 200 by
    intro i hi
    unfold wgt
    rw [List.getD_eq_getElem?_getD, List.getElem?_map, List.getElem?_take, if_pos (by omega), List.getD_eq_getElem?_getD, List.getElem?_eq_getElem (by omega)]
    rfl)
  rw [hm4]
  generalize wgt l = ws at *
  have hmn : ((min 12 len : Nat) : Int) = m := by omega
  clear hi hz0 hz1 hz2 hc hwf hlen hm4
  rcases Nat.lt_or_ge 12 len with h12 | h12
  rotate_left
  · have e : m = len := by omega
    have hd : (len : Int) ≤ 12 := by omega
    clear hm hmn
    subst e
    go_enter Try.func22, Try.ntmps22
    go_wp2_with fail
    go_loopw [3, 12] (fun o i wr => ∃ j : Nat, j ≤ m ∧ i = .int .i64 j ∧ wr.ownsRow W.heap.size 3 1 o j ((ws.take j).map (Value.int .i64)) ∧ Kp W.heap.size W wr) (fun _ i _ => m - (intOf i).toNat)
    case atStart => exact ⟨0, Nat.zero_le _, rfl, World.ownsRow_nil _ _ _ _, Kp.refl _ _⟩
    case round =>
      obtain ⟨j, hj, rfl, hown, hkp⟩ := hrel
      by_cases hlt : j < m
      · obtain ⟨b, off, rfl, hc1⟩ := HC.out.kp hkp (i := j) (by omega)
        have hw := HW.out j (by omega)
        have hS := take_snocI ws j (by have := HWL.out; omega)
        rw [HG.out j hlt] at hS
        generalize l.getD j 0 = u at *
        obtain ⟨hu0, hu1⟩ := hw
        have r0 := Int.emod_nonneg u (b := 200) (by omega)
        have r1 := Int.emod_lt_of_pos u (b := 200) (by omega)
        have hE2 : (ws.take (j + 1)).map (Value.int .i64) = (ws.take j).map (Value.int .i64) ++ [1 + u % 200].map (Value.int .i64) := by
          rw [hS, List.map_append]
        have tm : Int.tmod u 200 = u % 200 := Int.tmod_eq_emod_of_nonneg hu0
        have HS := Lib.hid hE2
        have HK := Lib.hid hkp
        have HO := Lib.hid hown
        have hji : (j : Int) < m := by omega
        have hsz := hkp.size
        clear hS hE2 hkp hown
        go_wp2_with (at_builtin; refine wpList_append_rd _ rfl _ _ 38 rfl W.heap.size 3 i0 (.int .i64 0) 1 8 Try.underlying38 HI.out HZ0.out HZ1.out HZ2.out rfl (by decide) _ j ((ws.take j).map (Value.int .i64)) rfl ?qc1 (some ⟨wr.heap.size, 0, none⟩) 1 1 ([1 + u % 200].map (Value.int .i64)) rfl ?qc2 (oneCells' [1 + u % 200]) ?qc4 ?qc5 ?qc6 ?_)
        case qc1 => exact own_kp HO.out ((Kp.refl _ wr).alloc (Nat.le_refl _) _)
        case qc2 => exact rd_new wr [.int .i64 (1 + u % 200)] 3 1 1 rfl
        case qc4 => unfold maxLen; omega
        case qc5 => omega
        case qc6 => simp; omega
        intro v' w2 hown' hgrow
        have HO2 := Lib.hid (show w2.ownsRow W.heap.size 3 1 v' (j + 1) ((ws.take (j + 1)).map (Value.int .i64)) by rw [HS.out]; first | exact hown' | (rw [List.map_take]; exact hown'))
        have HK2 := Lib.hid ((HK.out.alloc hsz _).grown hgrow (by simp; omega) (fun g hg => (HO.out.lt g hg).1))
        clear hown' hgrow HO HK hsz
        go_wp2
        go_roundw
        case rel => exact ⟨j + 1, by omega, by go_num, HO2.out, HK2.out⟩
        case measure => simp [intOf]; omega
      · have hje : j = m := by omega
        subst hje
        have HO := Lib.hid hown
        have HK := Lib.hid hkp
        clear hown hkp hlt hj
        have hno : ¬ ((j : Nat) : Int) < (j : Nat) := by omega
        go_wp2
        go_ret
        refine ⟨_, rfl, ?_, HK.out⟩
        have h := HO.out
        have hte : ws.take j = ws := by
          have := HWL.out
          rw [List.take_of_length_le (by omega)]
        rwa [hte] at h
  · have e : m = 12 := by omega
    have hd2 : (12 : Int) < len := by omega
    clear hm hmn
    subst e
    go_enter Try.func22, Try.ntmps22
    go_wp2_with fail
    go_loopw [3, 12] (fun o i wr => ∃ j : Nat, j ≤ 12 ∧ i = .int .i64 j ∧ wr.ownsRow W.heap.size 3 1 o j ((ws.take j).map (Value.int .i64)) ∧ Kp W.heap.size W wr) (fun _ i _ => 12 - (intOf i).toNat)
    case atStart => exact ⟨0, Nat.zero_le _, rfl, World.ownsRow_nil _ _ _ _, Kp.refl _ _⟩
    case round =>
      obtain ⟨j, hj, rfl, hown, hkp⟩ := hrel
      by_cases hlt : j < 12
      · obtain ⟨b, off, rfl, hc1⟩ := HC.out.kp hkp (i := j) (by omega)
        have hw := HW.out j (by omega)
        have hS := take_snocI ws j (by have := HWL.out; omega)
        rw [HG.out j hlt] at hS
        generalize l.getD j 0 = u at *
        obtain ⟨hu0, hu1⟩ := hw
        have r0 := Int.emod_nonneg u (b := 200) (by omega)
        have r1 := Int.emod_lt_of_pos u (b := 200) (by omega)
        have hE2 : (ws.take (j + 1)).map (Value.int .i64) = (ws.take j).map (Value.int .i64) ++ [1 + u % 200].map (Value.int .i64) := by
          rw [hS, List.map_append]
        have tm : Int.tmod u 200 = u % 200 := Int.tmod_eq_emod_of_nonneg hu0
        have HS := Lib.hid hE2
        have HK := Lib.hid hkp
        have HO := Lib.hid hown
        have hji : (j : Int) < 12 := by omega
        have hsz := hkp.size
        clear hS hE2 hkp hown
        go_wp2_with (at_builtin; refine wpList_append_rd _ rfl _ _ 38 rfl W.heap.size 3 i0 (.int .i64 0) 1 8 Try.underlying38 HI.out HZ0.out HZ1.out HZ2.out rfl (by decide) _ j ((ws.take j).map (Value.int .i64)) rfl ?qc1 (some ⟨wr.heap.size, 0, none⟩) 1 1 ([1 + u % 200].map (Value.int .i64)) rfl ?qc2 (oneCells' [1 + u % 200]) ?qc4 ?qc5 ?qc6 ?_)
        case qc1 => exact own_kp HO.out ((Kp.refl _ wr).alloc (Nat.le_refl _) _)
        case qc2 => exact rd_new wr [.int .i64 (1 + u % 200)] 3 1 1 rfl
        case qc4 => unfold maxLen; omega
        case qc5 => omega
        case qc6 => simp; omega
        intro v' w2 hown' hgrow
        have HO2 := Lib.hid (show w2.ownsRow W.heap.size 3 1 v' (j + 1) ((ws.take (j + 1)).map (Value.int .i64)) by rw [HS.out]; first | exact hown' | (rw [List.map_take]; exact hown'))
        have HK2 := Lib.hid ((HK.out.alloc hsz _).grown hgrow (by simp; omega) (fun g hg => (HO.out.lt g hg).1))
        clear hown' hgrow HO HK hsz
        go_wp2
        go_roundw
        case rel => exact ⟨j + 1, by omega, by go_num, HO2.out, HK2.out⟩
        case measure => simp [intOf]; omega
      · have hje : j = 12 := by omega
        subst hje
        have HO := Lib.hid hown
        have HK := Lib.hid hkp
        clear hown hkp hlt hj
        have hno : ¬ ((12 : Nat) : Int) < (12 : Nat) := by omega
        go_wp2
        go_ret
        refine ⟨_, rfl, ?_, HK.out⟩
        have h := HO.out
        have hte : ws.take 12 = ws := by
          have := HWL.out
          rw [List.take_of_length_le (by omega)]
        rwa [hte] at h
end Go.Proofs.Ytjffikiebeneaaa
