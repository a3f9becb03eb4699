/-
  The library's Clone and Equal at slices of entities and of uint64; the law's own 'theirs' (each entity handed on to the reference's type).
-/
import Derived.Test.YtmlapjaccmoleaaEnts
import Derived.Deep.QuietTactic
import Derived.BigQuiet
namespace Go.Proofs.Ytmlapjaccmoleaa
open Go.RowKit

/-- A row of the call's own with these cells. -/
def OwnPost (W : World) (t : TypeId) (sz n : Nat) (xs : List Value) (e : Ending) (w' : World) : Prop := ∃ v, e = .returned v ∧ w'.ownsRow W.heap.size t sz v n xs ∧ Kp W.heap.size W w'

set_option maxRecDepth 100000 in
theorem cloneE_any (W : World) (A : Option Addr) (len cap : Nat) (es : List E3) (hlen : es.length = len) (hcap : A = none → cap = 0 ∧ len = 0) (hc : IsEnts W A len es) (hbig : len * 16 ≤ 140737488355328) :
    Calls Try.prog 59 #[.slice A len cap] W (OwnPost W 25 3 len (flat es)) := by
  have q : ∀ (w : World) (a : Option Addr) (n c n' c' : Nat), (binOp .eql 44 (.slice a n c) (.slice none n' c')).run Try.prog w = .ok (.bool a.isNone) w := fun w a n c n' c' => Lib.run_eql_slice_nil w _ _ a n c n' c' Try.underlying44
  obtain ⟨i0, hi, hz0, hz1, hz2⟩ := info_parts ent_info
  have HR := Lib.hid (hc.rd hlen)
  have HL := Lib.hid hlen
  clear hc hlen
  rcases A with _ | ad
  · obtain ⟨rfl, rfl⟩ := hcap rfl
    have HX := Lib.hid (show flat es = [] by rw [List.eq_nil_of_length_eq_zero HL.out]; rfl)
    go_enter Try.func59, Try.ntmps59
    go_wp2
    go_ret
    exact ⟨_, rfl, by rw [HX.out]; exact World.ownsRow_nil _ _ _ _, Kp.refl _ _⟩
  · clear hcap
    go_enter Try.func59, Try.ntmps59
    go_wp2_with (at_builtin; refine wpList_append_rd _ rfl _ _ 44 rfl W.heap.size 25 i0 (.agg #[.int .u64 0, .int .u32 0, .int .u32 0]) 3 16 Try.underlying44 hi hz0 hz1 hz2 rfl (by decide) _ _ _ rfl (World.ownsRow_made W #[] 0 (Nat.le_refl _) (Nat.zero_le _) rfl) (some ad) len cap (flat es) rfl ?qc2 (flat_one es) ?qc4 ?qc5 ?qc6 ?_)
    case qc2 => exact HR.out.kp ((Kp.refl _ _).alloc (Nat.le_refl _) _)
    case qc4 => unfold maxLen; omega
    case qc5 => omega
    case qc6 => simp
    intro v' w1 hown hgrow
    go_wp2
    go_ret
    refine ⟨v', rfl, by simpa using hown, ?_⟩
    exact ((Kp.refl _ W).alloc (Nat.le_refl _) _).grown hgrow (by simp) (by intro k hk; simp [Value.ownBlock] at hk; omega)

theorem u64_info : (Try.prog.info? 22).map (fun i => (i.zero, i.size, i.bytes)) = some (some (.int .u64 0), 1, 8) := by kernel_rfl
theorem oneCells' {k : IntKind} (l : List Int) : ∀ u ∈ l.map (Value.int k), u.oneCell' = true := by
  intro u hu
  obtain ⟨z, _, rfl⟩ := List.mem_map.1 hu
  rfl
set_option maxRecDepth 100000 in
theorem cloneU_any (W : World) (A : Option Addr) (len cap : Nat) (zs : List Int) (hlen : zs.length = len) (hcap : A = none → cap = 0 ∧ len = 0) (hc : IsInts W .u64 A len zs) (hbig : len * 8 ≤ 140737488355328) :
    Calls Try.prog 64 #[.slice A len cap] W (OwnPost W 22 1 len (zs.map (Value.int .u64))) := by
  have q : ∀ (w : World) (a : Option Addr) (n c n' c' : Nat), (binOp .eql 43 (.slice a n c) (.slice none n' c')).run Try.prog w = .ok (.bool a.isNone) w := fun w a n c n' c' => Lib.run_eql_slice_nil w _ _ a n c n' c' Try.underlying43
  obtain ⟨i0, hi, hz0, hz1, hz2⟩ := info_parts u64_info
  have HR := Lib.hid (Rd.ints hlen hc)
  have HL := Lib.hid hlen
  clear hc hlen
  rcases A with _ | ad
  · obtain ⟨rfl, rfl⟩ := hcap rfl
    have HX := Lib.hid (show zs.map (Value.int .u64) = [] by rw [List.eq_nil_of_length_eq_zero HL.out]; rfl)
    go_enter Try.func64, Try.ntmps64
    go_wp2
    go_ret
    exact ⟨_, rfl, by rw [HX.out]; exact World.ownsRow_nil _ _ _ _, Kp.refl _ _⟩
  · clear hcap
    go_enter Try.func64, Try.ntmps64
    go_wp2_with (at_builtin; refine wpList_append_rd _ rfl _ _ 43 rfl W.heap.size 22 i0 (.int .u64 0) 1 8 Try.underlying43 hi hz0 hz1 hz2 rfl (by decide) _ _ _ rfl (World.ownsRow_made W #[] 0 (Nat.le_refl _) (Nat.zero_le _) rfl) (some ad) len cap (zs.map (Value.int .u64)) rfl ?qc2 (oneCells' zs) ?qc4 ?qc5 ?qc6 ?_)
    case qc2 => exact HR.out.kp ((Kp.refl _ _).alloc (Nat.le_refl _) _)
    case qc4 => unfold maxLen; omega
    case qc5 => omega
    case qc6 => simp
    intro v' w1 hown hgrow
    go_wp2
    go_ret
    refine ⟨v', rfl, by simpa using hown, ?_⟩
    exact ((Kp.refl _ W).alloc (Nat.le_refl _) _).grown hgrow (by simp) (by intro k hk; simp [Value.ownBlock] at hk; omega)

set_option maxRecDepth 100000 in
set_option maxHeartbeats 400000 in
theorem equalU_same (W : World) (A B : Option Addr) (len c d : Nat) (zs : List Int) (hmax : (len : Int) ≤ 9223372036854775807) (ha : IsInts W .u64 A len zs) (hb : IsInts W .u64 B len zs) :
    Calls Try.prog 67 #[.slice A len c, .slice B len d] W fun e w' => e = .returned (.bool true) ∧ ∃ n, w' = W.drewN n := by
  have HA := Lib.hid ha
  have HB := Lib.hid hb
  clear ha hb
  go_enter Try.func67, Try.ntmps67
  go_wp2
  go_loopw [13] (fun i wr => ∃ k : Nat, k ≤ len ∧ i = .int .i64 k ∧ ∃ n, wr = W.drewN n) (fun i _ => len - (intOf i).toNat)
  case atStart => exact ⟨0, Nat.zero_le _, rfl, 0, rfl⟩
  case round =>
    obtain ⟨k, hk, rfl, n, rfl⟩ := hrel
    by_cases hlt : (k : Int) < len
    · obtain ⟨b, off, rfl, _, hcc⟩ := HA.out k (by omega)
      obtain ⟨b', off', rfl, _, hcc'⟩ := HB.out k (by omega)
      generalize zs.getD k 0 = z at *
      go_wp2
      go_quiet (fail)
      go_wp2
      go_roundw
      case rel => exact ⟨k + 1, by omega, by go_num, _, rfl⟩
      case measure => simp [intOf]; omega
    · go_wp2
      go_ret
      exact ⟨rfl, _, rfl⟩
set_option maxRecDepth 100000 in
set_option maxHeartbeats 400000 in
theorem equalE_same (W : World) (A B : Option Addr) (len c d : Nat) (es : List E3) (hmax : (len : Int) ≤ 3000000000000000000) (ha : IsEnts W A len es) (hb : IsEnts W B len es) :
    Calls Try.prog 62 #[.slice A len c, .slice B len d] W fun e w' => e = .returned (.bool true) ∧ ∃ n, w' = W.drewN n := by
  have HA := Lib.hid ha
  have HB := Lib.hid hb
  clear ha hb
  go_enter Try.func62, Try.ntmps62
  go_wp2
  go_loopw [13] (fun i wr => ∃ k : Nat, k ≤ len ∧ i = .int .i64 k ∧ ∃ n, wr = W.drewN n) (fun i _ => len - (intOf i).toNat)
  case atStart => exact ⟨0, Nat.zero_le _, rfl, 0, rfl⟩
  case round =>
    obtain ⟨k, hk, rfl, n, rfl⟩ := hrel
    by_cases hlt : (k : Int) < len
    · obtain ⟨b, off, rfl, _, c0, c1, c2⟩ := HA.out k (by omega)
      obtain ⟨b', off', rfl, _, d0, d1, d2⟩ := HB.out k (by omega)
      generalize (es.getD k e0).1 = x at *
      generalize (es.getD k e0).2.1 = y at *
      generalize (es.getD k e0).2.2 = z at *
      go_wp2
      go_quiet (fail)
      go_wp2
      go_roundw
      case rel => exact ⟨k + 1, by omega, by go_num, _, rfl⟩
      case measure => simp [intOf]; omega
    · go_wp2
      go_ret
      exact ⟨rfl, _, rfl⟩

theorem refent_info : (Try.prog.info? 74).map (fun i => (i.zero, i.size, i.bytes)) = some (some (.agg #[.int .u64 0, .int .u32 0, .int .u32 0]), 3, 16) := by kernel_rfl
set_option maxRecDepth 100000 in
set_option maxHeartbeats 1000000 in
theorem theirs_any (W : World) (A : Option Addr) (len cap : Nat) (es : List E3) (hlen : es.length = len) (hmax : len ≤ 100) (hc : IsEnts W A len es) :
    Calls Try.prog 61 #[.slice A len cap] W (OwnPost W 74 3 len (flat es)) := by
  obtain ⟨i0, hi, hz0, hz1, hz2⟩ := info_parts refent_info
  have HI := Lib.hid hi
  have HZ0 := Lib.hid hz0
  have HZ1 := Lib.hid hz1
  have HZ2 := Lib.hid hz2
  have HL := Lib.hid hlen
  have HC := Lib.hid hc
  have hm : (len : Int) ≤ 100 := by omega
  clear hi hz0 hz1 hz2 hlen hc
  go_enter Try.func61, Try.ntmps61
  go_wp2_with fail
  go_loopw [3, 8] (fun o i wr => ∃ j : Nat, j ≤ len ∧ i = .int .i64 j ∧ wr.ownsRow W.heap.size 74 3 o j (flat (es.take j)) ∧ Kp W.heap.size W wr) (fun _ i _ => len - (intOf i).toNat)
  case atStart => exact ⟨0, Nat.zero_le _, rfl, World.ownsRow_nil _ _ _ _, Kp.refl _ _⟩
  case round =>
    obtain ⟨j, hj, rfl, hown, hkp⟩ := hrel
    by_cases hlt : j < len
    · obtain ⟨b, off, rfl, _, c0, c1, c2⟩ := (HC.out.kp hkp) j hlt
      have hS := take_snocE es j (by have := HL.out; omega)
      obtain ⟨x, hx⟩ : ∃ x, x = es.getD j e0 := ⟨_, rfl⟩
      rw [← hx] at c0 c1 c2 hS
      obtain ⟨v, r, w⟩ := x
      dsimp only at c0 c1 c2
      have HS := Lib.hid (show flat (es.take (j + 1)) = flat (es.take j) ++ flat [(v, r, w)] by rw [hS, flat_app])
      have HK := Lib.hid hkp
      have HO := Lib.hid hown
      have hji : (j : Int) < len := by omega
      clear hS hx hown
      have hsz := hkp.size
      clear hkp
      go_wp2_with (at_builtin; refine wpList_append_rd _ rfl _ _ 89 rfl W.heap.size 74 i0 (.agg #[.int .u64 0, .int .u32 0, .int .u32 0]) 3 16 Try.underlying89 HI.out HZ0.out HZ1.out HZ2.out rfl (by decide) _ j (flat (es.take j)) rfl ?qc1 (some ⟨wr.heap.size + 1, 0, none⟩) 1 1 (flat [(v, r, w)]) rfl ?qc2 (flat_one [(v, r, w)]) ?qc4 ?qc5 ?qc6 ?_)
      case qc1 => exact own_kp HO.out (((Kp.refl _ wr).alloc (Nat.le_refl _) _).alloc (by simp) _)
      case qc2 => simpa using rd_ent (wr.alloc (.cells #[.int .u64 v, .int .u32 r, .int .u32 w] 25)) v r w 74
      case qc4 => unfold maxLen; omega
      case qc5 => omega
      case qc6 => simp; omega
      intro v' w2 hown' hgrow
      have HO2 := Lib.hid (show w2.ownsRow W.heap.size 74 3 v' (j + 1) (flat (es.take (j + 1))) by rw [HS.out]; exact hown')
      have HK2 := Lib.hid (((HK.out.alloc hsz _).alloc (by simp; omega) _).grown hgrow (by simp; omega) (fun g hg => (HO.out.lt g hg).1))
      clear hown' hgrow HO HK hsz c0 c1 c2
      go_wp2
      go_roundw
      case rel => exact ⟨j + 1, by omega, by go_num, HO2.out, HK2.out⟩
      case measure => simp [intOf]; omega
    · have hje : j = len := by omega
      subst hje
      have HO := Lib.hid hown
      have HK := Lib.hid hkp
      clear hown hkp hlt hj
      have hno : ¬ (j : Int) < (j : Int) := by omega
      go_wp2
      go_ret
      refine ⟨_, rfl, ?_, HK.out⟩
      have h := HO.out
      rwa [← HL.out, List.take_length, HL.out] at h
end Go.Proofs.Ytmlapjaccmoleaa
