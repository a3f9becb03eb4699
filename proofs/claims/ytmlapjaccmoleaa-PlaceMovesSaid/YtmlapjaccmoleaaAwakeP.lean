/-
  The contract of layer 23's 'awake': it returns true.
-/
import Derived.Test.YtmlapjaccmoleaaFloor2
namespace Go.Proofs.Ytmlapjaccmoleaa
open Go.RowKit

theorem eb_ex : EB 100 3 5 := ⟨by omega, by omega, by omega, by omega, by omega, by omega⟩
theorem ex_new (W : World) : Calls Try.prog 30 #[.int .u64 7, .int .i64 5] W fun e w' => e = .returned (.tuple #[ent 7 0 5, .int .i64 0]) ∧ Grew 3 W w' := new_t W (by omega) (by omega)
theorem ex_woken1 (W : World) : Calls Try.prog 28 #[ent 100 3 5, .int .u64 200, .int .u64 50] W fun e w' => e = .returned (.tuple #[ent 150 0 5, .int .i64 0]) ∧ Grew 3 W w' :=
  (woken_any W eb_ex (by omega) (by omega) (by omega) (by omega)).mono fun _ _ ⟨he, hw⟩ => ⟨he.trans (retE2 (by decide) (by decide) (by decide) (by decide)), hw⟩
theorem ex_woken2 (W : World) : Calls Try.prog 28 #[ent 100 3 5, .int .u64 200, .int .u64 100] W fun e w' => e = .returned (.tuple #[ent 100 3 5, .int .i64 0]) ∧ Grew 3 W w' :=
  (woken_any W eb_ex (by omega) (by omega) (by omega) (by omega)).mono fun _ _ ⟨he, hw⟩ => ⟨he.trans (retE2 (by decide) (by decide) (by decide) (by decide)), hw⟩
theorem ex_woken3 (W : World) : Calls Try.prog 28 #[ent 100 3 5, .int .u64 200, .int .u64 300] W fun e w' => e = .returned (.tuple #[ent 100 3 5, .int .i64 0]) ∧ Grew 3 W w' :=
  (woken_any W eb_ex (by omega) (by omega) (by omega) (by omega)).mono fun _ _ ⟨he, hw⟩ => ⟨he.trans (retE2 (by decide) (by decide) (by decide) (by decide)), hw⟩
theorem ex_gain (W : World) : Calls Try.prog 29 #[ent 100 3 5, .int .u64 200, .int .u64 50] W fun e w' => e = .returned (.tuple #[.int .u64 50, .int .i64 0]) ∧ Grew 5 W w' :=
  (gain_any W eb_ex (by omega) (by omega) (by omega) (by omega)).mono fun _ _ ⟨he, hw⟩ => ⟨he.trans (retUI (by decide) (by decide)), hw⟩
theorem ex_moved1 (W : World) : Calls Try.prog 24 #[ent 100 3 5, .int .u64 90, .int .u64 1000] W fun e w' => e = .returned (.tuple #[ent 1010 3 5, .int .i64 0]) ∧ Grew 3 W w' :=
  (moved_any W eb_ex (by omega) (by omega) (by omega) (by omega)).mono fun _ _ ⟨he, hw⟩ => ⟨he.trans (retE2 (by decide) (by decide) (by decide) (by decide)), hw⟩
theorem ex_moved2 (W : World) : Calls Try.prog 24 #[ent 100 3 5, .int .u64 120, .int .u64 1000] W fun e w' => e = .returned (.tuple #[ent 980 3 5, .int .i64 0]) ∧ Grew 3 W w' :=
  (moved_any W eb_ex (by omega) (by omega) (by omega) (by omega)).mono fun _ _ ⟨he, hw⟩ => ⟨he.trans (retE2 (by decide) (by decide) (by decide) (by decide)), hw⟩
theorem ex_moved3 (W : World) : Calls Try.prog 24 #[ent 100 3 5, .int .u64 120, .int .u64 5] W fun e w' => e = .returned (.tuple #[ent 0 3 5, .int .i64 0]) ∧ Grew 3 W w' :=
  (moved_any W eb_ex (by omega) (by omega) (by omega) (by omega)).mono fun _ _ ⟨he, hw⟩ => ⟨he.trans (retE2 (by decide) (by decide) (by decide) (by decide)), hw⟩
theorem ex_ahead (W : World) : Calls Try.prog 31 #[ent 100 3 5, .int .u64 120] W fun e w' => e = .returned (.tuple #[.int .u64 20, .bool false, .int .i64 0]) ∧ Grew 2 W w' :=
  (ahead_any W eb_ex (by omega) (by omega)).mono fun _ _ ⟨he, hw⟩ => ⟨he.trans (retUBI (by decide) (by decide) (by decide)), hw⟩

theorem isEnts_two (w : World) (B : Nat) (hB : w.heap.size = B) :
    IsEnts (w.alloc (.cells #[.int .u64 12, .int .u32 0, .int .u32 1, .int .u64 11, .int .u32 0, .int .u32 1] 25)) (some ⟨B, 0, none⟩) 2 [(12, 0, 1), (11, 0, 1)] := by
  subst hB
  have h := fun j => cell_of_row (w.alloc (.cells #[.int .u64 12, .int .u32 0, .int .u32 1, .int .u64 11, .int .u32 0, .int .u32 1] 25)) w.heap.size j _ 25 (0, 0) (heap_alloc_new w _)
  intro i hi
  match i, hi with
  | 0, _ => exact ⟨w.heap.size, 0, rfl, by simp, h 0, h 1, h 2⟩
  | 1, _ => exact ⟨w.heap.size, 0, rfl, by simp, h 3, h 4, h 5⟩
theorem ebs_two : EBs [(12, 0, 1), (11, 0, 1)] := by
  intro e he
  simp only [List.mem_cons, List.not_mem_nil, or_false] at he
  rcases he with rfl | rfl <;> exact ⟨by decide, by decide, by decide, by decide, by decide, by decide⟩
theorem ex_floor1 (W : World) (A : Option Addr) (h : IsEnts W A 2 [(12, 0, 1), (11, 0, 1)]) : Calls Try.prog 32 #[.int .u64 10, .slice A 2 2] W fun e w' => e = .returned (.tuple #[.int .u64 11, .int .i64 0]) ∧ GrewS W w' :=
  (floor_any W A 2 [(12, 0, 1), (11, 0, 1)] (by decide) h ebs_two).mono fun _ _ ⟨he, hw⟩ => ⟨he.trans (retUI (by decide) (by decide)), hw⟩
theorem ex_floor2 (W : World) (A : Option Addr) (h : IsEnts W A 2 [(12, 0, 1), (11, 0, 1)]) : Calls Try.prog 32 #[.int .u64 20, .slice A 2 2] W fun e w' => e = .returned (.tuple #[.int .u64 20, .int .i64 0]) ∧ GrewS W w' :=
  (floor_any W A 2 [(12, 0, 1), (11, 0, 1)] (by decide) h ebs_two).mono fun _ _ ⟨he, hw⟩ => ⟨he.trans (retUI (by decide) (by decide)), hw⟩

theorem Kp.cells {B K : Nat} {w w' : World} (h : Kp B w w') (hK : B = K) : ∀ b o, b < K → w'.cell? ⟨b, o, none⟩ = w.cell? ⟨b, o, none⟩ := fun b o hb => h.cell (p := ⟨b, o, none⟩) (hK ▸ hb)

set_option maxRecDepth 100000 in
set_option maxHeartbeats 1000000 in
theorem awakeP_any (W : World) : Calls Try.prog 22 #[] W fun e w' => e = .returned (.bool true) ∧ GrewS W w' := by
  have H1 := fun W => Lib.hid (ex_new W)
  have H2 := fun W => Lib.hid (ex_woken1 W)
  have H3 := fun W => Lib.hid (ex_woken2 W)
  have H4 := fun W => Lib.hid (ex_woken3 W)
  have H5 := fun W => Lib.hid (ex_gain W)
  have H6 := fun W => Lib.hid (ex_moved1 W)
  have H7 := fun W => Lib.hid (ex_moved2 W)
  have H8 := fun W => Lib.hid (ex_moved3 W)
  have H9 := fun W => Lib.hid (ex_ahead W)
  go_enter Try.func22, Try.ntmps22
  go_wp2_with fail
  refine ((H1 _).out).mono ?_
  rintro e w' ⟨rfl, os1, n1, hl1, rfl⟩
  go_wp2_with fail
  refine ((H2 _).out).mono ?_
  rintro e w' ⟨rfl, os2, n2, hl2, rfl⟩
  go_wp2_with fail
  refine ((H3 _).out).mono ?_
  rintro e w' ⟨rfl, os3, n3, hl3, rfl⟩
  go_wp2_with fail
  refine ((H4 _).out).mono ?_
  rintro e w' ⟨rfl, os4, n4, hl4, rfl⟩
  go_wp2_with fail
  refine ((H5 _).out).mono ?_
  rintro e w' ⟨rfl, os5, n5, hl5, rfl⟩
  go_wp2_with fail
  refine ((H6 _).out).mono ?_
  rintro e w' ⟨rfl, os6, n6, hl6, rfl⟩
  go_wp2_with fail
  refine ((H7 _).out).mono ?_
  rintro e w' ⟨rfl, os7, n7, hl7, rfl⟩
  go_wp2_with fail
  refine ((H8 _).out).mono ?_
  rintro e w' ⟨rfl, os8, n8, hl8, rfl⟩
  go_wp2_with fail
  refine ((H9 _).out).mono ?_
  rintro e w' ⟨rfl, os9, n9, hl9, rfl⟩
  go_wp2_with fail
  refine (ex_floor1 _ _ ?hE).mono ?_
  case hE => exact isEnts_two _ _ (by simp [hl1, hl2, hl3, hl4, hl5, hl6, hl7, hl8, hl9])
  rintro e w10 ⟨rfl, hg⟩
  have hE := Lib.hid ((isEnts_two _ (W.heap.size + 1 + 3 + 1 + 3 + 1 + 3 + 1 + 3 + 1 + 5 + 3 + 1 + 3 + 1 + 3 + 1 + 2) (by simp [hl1, hl2, hl3, hl4, hl5, hl6, hl7, hl8, hl9])).kp hg.kp)
  have c10 := hg.kp.cells (K := W.heap.size + 1 + 3 + 1 + 3 + 1 + 3 + 1 + 3 + 1 + 5 + 3 + 1 + 3 + 1 + 3 + 1 + 2 + 1) (by simp [hl1, hl2, hl3, hl4, hl5, hl6, hl7, hl8, hl9])
  have hg10 := Lib.hid hg
  go_wp2_with fail
  refine (ex_floor2 _ _ hE.out).mono ?_
  rintro e w11 ⟨rfl, hg⟩
  have c11 := (hg.kp.mono hg10.out.kp.size).cells (K := W.heap.size + 1 + 3 + 1 + 3 + 1 + 3 + 1 + 3 + 1 + 5 + 3 + 1 + 3 + 1 + 3 + 1 + 2 + 1) (by simp [hl1, hl2, hl3, hl4, hl5, hl6, hl7, hl8, hl9])
  have hg11 := Lib.hid hg
  clear hg hE
  go_wp2_with fail
  go_ret
  refine ⟨rfl, GrewS.trans (GrewS.trans ?_ hg10.out) hg11.out⟩
  repeat first | exact GrewS.refl _ | apply GrewS.drewN | apply GrewS.more | apply GrewS.alloc
end Go.Proofs.Ytmlapjaccmoleaa
