/-
  The contract of 'awake': it returns true.
-/
import Derived.Test.YtgfmgfblmfacgaaDoorRefs
namespace Go.Proofs.YtgfmgfblmfacgaaDoor
open Go.RowKit

theorem run_insert (w : World) (es : Array MapEntry) (clock : Nat) (key val : Value) (hc : ∀ w, (Instr.checkKey false 10000 3 key).run Tryd.prog w = .ok () w)
    (hf : ∀ w, (Instr.findKey 3 key es.toList).run Tryd.prog w = .ok none w) :
    (Instr.mapUpdate 53 (.map (some w.heap.size)) key val).run Tryd.prog (w.alloc (.map es clock)) = .ok () (w.alloc (.map (es.push ⟨key, val, clock⟩) (clock + 1))) := by
  have hp : ∀ (h : Array Obj) (x y : Obj), (h.push x).setIfInBounds h.size y = h.push y := by
    intro h x y
    apply Array.toList_inj.1
    simp
  have hset : ∀ (o' : Obj), (setObj w.heap.size o').run Tryd.prog (w.alloc (.map es clock)) = .ok () (w.alloc o') := fun o' => by
    simp only [setObj, Sem.run]
    rw [heap_alloc_new]
    show Result.ok () ({ w.alloc (.map es clock) with heap := (w.heap.push (.map es clock)).setIfInBounds w.heap.size o' } : World) = _
    rw [hp]
    rfl
  simp only [Instr.mapUpdate, Sem.run_bind, run_underlying Tryd.underlying53, Result.andThen, getObj, Sem.run, heap_alloc_new, hc, hf, hset]

def levels : Array MapEntry := #[⟨.int .i64 18, .int .i64 1024, 0⟩, ⟨.int .i64 17, .int .i64 1280, 1⟩, ⟨.int .i64 19, .int .i64 819, 2⟩, ⟨.int .i64 16, .int .i64 1600, 3⟩, ⟨.int .i64 20, .int .i64 655, 4⟩]
theorem levels_made (w : World) : (Instr.mapUpdate 53 (.map (some w.heap.size)) (.int .i64 20) (.int .i64 655)).run Tryd.prog (w.alloc (.map #[⟨.int .i64 18, .int .i64 1024, 0⟩, ⟨.int .i64 17, .int .i64 1280, 1⟩, ⟨.int .i64 19, .int .i64 819, 2⟩, ⟨.int .i64 16, .int .i64 1600, 3⟩] 4)) = .ok () (w.alloc (.map levels 5)) :=
  run_insert w _ 4 _ _ (fun _ => by kernel_rfl) (fun _ => by kernel_rfl)
theorem levels_ok : ∀ e ∈ levels.toList, ∃ l v : Int, e.key = .int .i64 l ∧ e.val = .int .i64 v ∧ ofV l = v ∧ ofE l = 0 := by
  intro e he
  simp only [levels, List.mem_cons, List.not_mem_nil, or_false] at he
  rcases he with rfl | rfl | rfl | rfl | rfl <;> exact ⟨_, _, rfl, rfl, by decide, by decide⟩
theorem levels_born : ∀ x ∈ levels.toList, x.born < 5 := by
  intro e he
  simp only [levels, List.mem_cons, List.not_mem_nil, or_false] at he
  rcases he with rfl | rfl | rfl | rfl | rfl <;> decide
def weightsM : Array MapEntry := #[⟨.int .i64 1024, .int .i64 18, 0⟩, ⟨.int .i64 1023, .int .i64 19, 1⟩, ⟨.int .i64 65536, .int .i64 0, 2⟩, ⟨.int .i64 1, .int .i64 35, 3⟩]
theorem weightsM_made (w : World) : (Instr.mapUpdate 53 (.map (some w.heap.size)) (.int .i64 1) (.int .i64 35)).run Tryd.prog (w.alloc (.map #[⟨.int .i64 1024, .int .i64 18, 0⟩, ⟨.int .i64 1023, .int .i64 19, 1⟩, ⟨.int .i64 65536, .int .i64 0, 2⟩] 3)) = .ok () (w.alloc (.map weightsM 4)) :=
  run_insert w _ 3 _ _ (fun _ => by kernel_rfl) (fun _ => by kernel_rfl)
theorem weightsM_ok : ∀ e ∈ weightsM.toList, ∃ l v : Int, e.key = .int .i64 l ∧ e.val = .int .i64 v ∧ lvV l = v ∧ weE l = 0 := by
  intro e he
  simp only [weightsM, List.mem_cons, List.not_mem_nil, or_false] at he
  rcases he with rfl | rfl | rfl | rfl <;> exact ⟨_, _, rfl, rfl, by decide, by decide⟩
theorem weightsM_born : ∀ x ∈ weightsM.toList, x.born < 4 := by
  intro e he
  simp only [weightsM, List.mem_cons, List.not_mem_nil, or_false] at he
  rcases he with rfl | rfl | rfl | rfl <;> decide
theorem weightsM_nodup : (weightsM.toList.map (·.born)).Nodup := by decide
theorem levels_nodup : (levels.toList.map (·.born)).Nodup := by decide


theorem TabW.alike {w w1 : World} (h : TabW w) (ha : w1.Alike w) : TabW w1 := by
  obtain ⟨t, fr, h⟩ := h
  exact ⟨t, fr, by rw [ha.1]; exact h⟩

/-- Where a walk stands within a range over a map of the call's own, the last block but the iterator. -/
structure Rg (W w1 : World) (b : Nat) (es : Array MapEntry) (n : Nat) : Prop where
  kp : Kp W.heap.size W w1
  size : w1.heap.size = b + 1
  map : w1.heap[b]? = some (.map es n)

theorem Rg.start {W w : World} {b n : Nat} {es : Array MapEntry} (h : Kp W.heap.size W w) (hb : w.heap.size = b) : Rg W (w.alloc (.map es n)) b es n := by
  subst hb
  exact ⟨h.alloc h.size _, by simp, heap_alloc_new _ _⟩
theorem Rg.alike {W w1 w2 : World} {b n : Nat} {es : Array MapEntry} (h : Rg W w1 b es n) (ha : w2.Alike w1) : Rg W w2 b es n :=
  ⟨h.kp.alike ha, by rw [ha.1]; exact h.size, by rw [ha.1]; exact h.map⟩

theorem ex_scaled1 (W : World) : Calls Tryd.prog 16 #[.int .i64 3, .int .i64 1000] W fun e w' => e = .returned (.tuple #[.int .i64 3145, .int .i64 728, .int .i64 0]) ∧ ∃ n, w' = W.drewN n :=
  (scaled_any 3 1000 W).mono fun _ _ ⟨he, hw⟩ => ⟨he.trans (ret3 (by decide) (by decide) (by decide)), hw⟩
theorem ex_scaled2 (W : World) : Calls Tryd.prog 16 #[.int .i64 4294967295, .int .i64 65535] W fun e w' => e = .returned (.tuple #[.int .i64 68720525312, .int .i64 0, .int .i64 0]) ∧ ∃ n, w' = W.drewN n :=
  (scaled_any 4294967295 65535 W).mono fun _ _ ⟨he, hw⟩ => ⟨he.trans (ret3 (by decide) (by decide) (by decide)), hw⟩
theorem ex_ticks (W : World) : Calls Tryd.prog 17 #[.int .i64 3145, .int .i64 728, .int .i64 1000] W fun e w' => e = .returned (.tuple #[.int .i64 3, .int .i64 0, .int .i64 0]) ∧ ∃ n, w' = W.drewN n :=
  (ticks_any 3145 728 1000 W).mono fun _ _ ⟨he, hw⟩ => ⟨he.trans (ret3 (by decide) (by decide) (by decide)), hw⟩
theorem ex_inverse (W : World) : Calls Tryd.prog 21 #[.int .i64 3] W fun e w' => e = .returned (.tuple #[.int .i64 1431655765, .int .i64 0]) ∧ W = w' :=
  (inverse_any 3 W).mono fun _ _ ⟨he, hw⟩ => ⟨he.trans (ret2 (by decide) (by decide)), hw⟩
theorem ex_approx (W : World) : Calls Tryd.prog 19 #[.int .i64 1, .int .i64 3] W fun e w' => e = .returned (.tuple #[.int .i64 349525, .int .i64 0]) ∧ W = w' :=
  (approx_any 1 3 W).mono fun _ _ ⟨he, hw⟩ => ⟨he.trans (ret2 (by decide) (by decide)), hw⟩
theorem ex_error1 (W : World) : Calls Tryd.prog 20 #[.int .i64 1, .int .i64 3] W fun e w' => e = .returned (.tuple #[.int .i64 0, .int .i64 0]) ∧ ∃ n, w' = W.drewN n :=
  (error_any 1 3 W).mono fun _ _ ⟨he, hw⟩ => ⟨he.trans (ret2 (by decide) (by decide)), hw⟩
theorem ex_error2 (W : World) : Calls Tryd.prog 20 #[.int .i64 4294967295, .int .i64 65535] W fun e w' => e = .returned (.tuple #[.int .i64 17, .int .i64 0]) ∧ ∃ n, w' = W.drewN n :=
  (error_any 4294967295 65535 W).mono fun _ _ ⟨he, hw⟩ => ⟨he.trans (ret2 (by decide) (by decide)), hw⟩

set_option maxRecDepth 100000 in
set_option maxHeartbeats 1000000 in
theorem awake_any (W : World) (hT : TabW W) :
    Calls Tryd.prog 14 #[] W fun e w' => e = .returned (.bool true) ∧ Kp W.heap.size W w' := by
  have hpos := hT.pos
  have hmm := @run_makeMap Tryd.prog
  have i1 := fun w => run_insert w #[] 0 (.int .i64 18) (.int .i64 1024) (fun _ => by kernel_rfl) (fun _ => by kernel_rfl)
  have i2 := fun w => run_insert w #[⟨.int .i64 18, .int .i64 1024, 0⟩] 1 (.int .i64 17) (.int .i64 1280) (fun _ => by kernel_rfl) (fun _ => by kernel_rfl)
  have i3 := fun w => run_insert w #[⟨.int .i64 18, .int .i64 1024, 0⟩, ⟨.int .i64 17, .int .i64 1280, 1⟩] 2 (.int .i64 19) (.int .i64 819) (fun _ => by kernel_rfl) (fun _ => by kernel_rfl)
  have i4 := fun w => run_insert w #[⟨.int .i64 18, .int .i64 1024, 0⟩, ⟨.int .i64 17, .int .i64 1280, 1⟩, ⟨.int .i64 19, .int .i64 819, 2⟩] 3 (.int .i64 16) (.int .i64 1600) (fun _ => by kernel_rfl) (fun _ => by kernel_rfl)
  have i5 := levels_made
  have hrg := run_range_map (P := Tryd.prog) (W.alloc (.map levels 5)) 53 3 3 W.heap.size levels 5 Tryd.underlying53 (heap_alloc_new _ _)
  go_enter Tryd.func14, Tryd.ntmps14
  go_wp2
  clear hmm i1 i2 i3 i4 i5 hrg
  go_loopw [0] (fun s wr => s = .bool false ∧ ∃ (w1 : World) (seen : Array Nat), Rg W w1 W.heap.size levels 5 ∧ wr = w1.alloc (.mapIter (some W.heap.size) 5 seen 5)) (fun _ wr => (leftOf levels (wr.iterSeen (W.heap.size + 1))).size)
  case atStart => exact ⟨rfl, W.alloc (.map levels 5), #[], Rg.start (Kp.refl _ _) rfl, rfl⟩
  case round =>
    obtain ⟨rfl, w1, seen, hr, rfl⟩ := hrel
    have law := run_next_map (P := Tryd.prog) w1 0 W.heap.size 5 5 seen levels 5 hr.map levels_born (Nat.le_refl _)
    rw [hr.size] at law
    have HR := Lib.hid hr
    have hsz := hr.size
    rcases law with ⟨h0, hrun⟩ | ⟨e, he, w2, hal2, hrun⟩
    · have hnx : ∀ ty, (Instr.next (.pointer (some ⟨W.heap.size + 1, 0, none⟩)) false ty).run Tryd.prog (w1.alloc (.mapIter (some W.heap.size) 5 seen 5)) = _ := fun _ => hrun
      have hmm := @run_makeMap Tryd.prog
      have i1 := fun w => run_insert w #[] 0 (.int .i64 1024) (.int .i64 18) (fun _ => by kernel_rfl) (fun _ => by kernel_rfl)
      have i2 := fun w => run_insert w #[⟨.int .i64 1024, .int .i64 18, 0⟩] 1 (.int .i64 1023) (.int .i64 19) (fun _ => by kernel_rfl) (fun _ => by kernel_rfl)
      have i3 := fun w => run_insert w #[⟨.int .i64 1024, .int .i64 18, 0⟩, ⟨.int .i64 1023, .int .i64 19, 1⟩] 2 (.int .i64 65536) (.int .i64 0) (fun _ => by kernel_rfl) (fun _ => by kernel_rfl)
      have i4 := weightsM_made
      have HK : Kp W.heap.size W (w1.alloc (.mapIter (some W.heap.size) 5 seen 5)) := hr.kp.alloc hr.kp.size _
      generalize hWx : w1.alloc (.mapIter (some W.heap.size) 5 seen 5) = Wx at hnx HK ⊢
      have hrg := run_range_map (P := Tryd.prog) (Wx.alloc (.map weightsM 4)) 53 3 3 Wx.heap.size weightsM 4 Tryd.underlying53 (heap_alloc_new _ _)
      clear hr HR hrun h0 hWx hsz
      go_wp2
      clear hmm i1 i2 i3 i4 hrg hnx
      go_loopw [0] (fun s wr => s = .bool false ∧ ∃ (w1 : World) (seen : Array Nat), Rg W w1 Wx.heap.size weightsM 4 ∧ wr = w1.alloc (.mapIter (some Wx.heap.size) 4 seen 4)) (fun _ wr => (leftOf weightsM (wr.iterSeen (Wx.heap.size + 1))).size)
      case atStart => exact ⟨rfl, Wx.alloc (.map weightsM 4), #[], Rg.start HK rfl, rfl⟩
      case round =>
        obtain ⟨rfl, w1, seen, hr, rfl⟩ := hrel
        have law := run_next_map (P := Tryd.prog) w1 0 Wx.heap.size 4 4 seen weightsM 4 hr.map weightsM_born (Nat.le_refl _)
        rw [hr.size] at law
        have HR := Lib.hid hr
        have hsz := hr.size
        rcases law with ⟨h0, hrun⟩ | ⟨e, he, w2, hal2, hrun⟩
        · have hnx : ∀ ty, (Instr.next (.pointer (some ⟨Wx.heap.size + 1, 0, none⟩)) false ty).run Tryd.prog (w1.alloc (.mapIter (some Wx.heap.size) 4 seen 4)) = _ := fun _ => hrun
          have HK2 : Kp W.heap.size W (w1.alloc (.mapIter (some Wx.heap.size) 4 seen 4)) := hr.kp.alloc hr.kp.size _
          generalize hWy : w1.alloc (.mapIter (some Wx.heap.size) 4 seen 4) = Wy at hnx HK2 ⊢
          clear hr HR hrun h0 hWy hsz HK
          have c1 := fun W => Lib.hid (ex_scaled1 W)
          have c2 := fun W => Lib.hid (ex_ticks W)
          have c3 := fun W => Lib.hid (ex_inverse W)
          have c4 := fun W => Lib.hid (ex_approx W)
          have c5 := fun W => Lib.hid (ex_error1 W)
          have c6 := fun W => Lib.hid (ex_error2 W)
          have c7 := fun W => Lib.hid (ex_scaled2 W)
          go_wp2_with fail
          refine ((c1 _).out).mono ?_
          rintro e w' ⟨rfl, n1, rfl⟩
          go_wp2_with fail
          refine ((c2 _).out).mono ?_
          rintro e w' ⟨rfl, n2, rfl⟩
          go_wp2_with fail
          refine ((c3 _).out).mono ?_
          rintro e w' ⟨rfl, rfl⟩
          go_wp2_with fail
          refine ((c4 _).out).mono ?_
          rintro e w' ⟨rfl, rfl⟩
          go_wp2_with fail
          refine ((c5 _).out).mono ?_
          rintro e w' ⟨rfl, n5, rfl⟩
          go_wp2_with fail
          refine ((c6 _).out).mono ?_
          rintro e w' ⟨rfl, n6, rfl⟩
          go_wp2_with fail
          refine ((c7 _).out).mono ?_
          rintro e w' ⟨rfl, n7, rfl⟩
          go_wp2_with fail
          go_ret
          exact ⟨rfl, HK2.drewN _⟩
        · obtain ⟨hmem, _⟩ := mem_left he
          obtain ⟨l, v, hk, hv, hf, hz⟩ := weightsM_ok e hmem
          rw [hk, hv] at hrun
          have hnx : ∀ ty, (Instr.next (.pointer (some ⟨Wx.heap.size + 1, 0, none⟩)) false ty).run Tryd.prog (w1.alloc (.mapIter (some Wx.heap.size) 4 seen 4)) = _ := fun _ => hrun
          have hr2 := hr.alike hal2
          have hsz2 := hr2.size
          have hen := run_entry_map (P := Tryd.prog) w2 Wx.heap.size 4 seen weightsM 4 e hr2.map hmem weightsM_nodup
          rw [hsz2, hk, hv] at hen
          have hTx : TabW (w2.alloc (.mapIter (some Wx.heap.size) 4 (seen.push e.born) 4)) := hT.kp (hr2.kp.alloc hr2.kp.size _) hpos
          have HC := Lib.hid (level_any l _ hTx)
          rw [hf, hz] at HC
          have HS := Lib.hid (left_shrinks weightsM seen e he)
          have HR2 := Lib.hid hr2
          clear hr HR hr2 hTx hrun hal2 he hf hz hk hv hmem
          have HSZ := Lib.hid hsz2
          go_wp2_with (go_at_call 23; refine (HC.out).mono ?_; rintro e w' ⟨rfl, rfl⟩)
          go_roundw
          case rel => exact ⟨rfl, w2, seen.push e.born, HR2.out, rfl⟩
          case measure =>
            have hsz2 := HSZ.out
            rw [← hsz2, World.iterSeen_alloc, hsz2, ← hsz, World.iterSeen_alloc]
            exact HS.out
    · obtain ⟨hmem, _⟩ := mem_left he
      obtain ⟨l, v, hk, hv, hf, hz⟩ := levels_ok e hmem
      rw [hk, hv] at hrun
      have hnx : ∀ ty, (Instr.next (.pointer (some ⟨W.heap.size + 1, 0, none⟩)) false ty).run Tryd.prog (w1.alloc (.mapIter (some W.heap.size) 5 seen 5)) = _ := fun _ => hrun
      have hr2 := hr.alike hal2
      have hsz2 := hr2.size
      have hen := run_entry_map (P := Tryd.prog) w2 W.heap.size 5 seen levels 5 e hr2.map hmem levels_nodup
      rw [hsz2, hk, hv] at hen
      have hTx : TabW (w2.alloc (.mapIter (some W.heap.size) 5 (seen.push e.born) 5)) := hT.kp (hr2.kp.alloc hr2.kp.size _) hpos
      have HC := Lib.hid (of_any l _ hTx)
      rw [hf, hz] at HC
      have HS := Lib.hid (left_shrinks levels seen e he)
      have HR2 := Lib.hid hr2
      clear hr HR hr2 hTx hrun hal2 he hf hz hk hv hmem
      have HSZ := Lib.hid hsz2
      go_wp2_with (go_at_call 22; refine (HC.out).mono ?_; rintro e w' ⟨rfl, rfl⟩)
      go_roundw
      case rel => exact ⟨rfl, w2, seen.push e.born, HR2.out, rfl⟩
      case measure =>
        have hsz2 := HSZ.out
        rw [← hsz2, World.iterSeen_alloc, hsz2, ← hsz, World.iterSeen_alloc]
        exact HS.out
end Go.Proofs.YtgfmgfblmfacgaaDoor
