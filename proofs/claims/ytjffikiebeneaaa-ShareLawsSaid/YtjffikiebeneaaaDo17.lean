/-
  A store of what is there already; ShareLaws' own 'do'; three ways at once in a drawn region.
-/
import Derived.Test.YtjffikiebeneaaaAwake17
import Derived.Test.YtjffikiebeneaaaCut4
namespace Go
theorem World.setCell_id {w : World} {b o : Nat} {v : Value} (h : w.cell? ⟨b, o, none⟩ = some v) : w.setCell ⟨b, o, none⟩ v = w := by
  unfold World.cell? at h
  unfold World.setCell
  cases w with
  | mk heap tape drawn os output =>
  simp only at h ⊢
  congr 1
  apply Array.ext_getElem?
  intro i
  rw [Array.getElem?_modify]
  split
  · rename_i hi
    subst hi
    cases hb : heap[b]? with
    | none => rfl
    | some ob =>
      rw [hb] at h
      cases ob <;> simp_all
      apply Array.ext_getElem?
      intro q
      rw [Array.getElem?_setIfInBounds]
      split
      · rename_i hq
        subst hq
        obtain ⟨ho, hv⟩ := Array.getElem?_eq_some_iff.1 h
        rw [if_pos ho, h]
      · rfl
  · rfl
end Go
namespace Go.Proofs.Ytjffikiebeneaaa
open Go.RowKit

section
variable {P : Program} {Q : Exit → Act → World → Prop} {md : Region.Mode} {S : World → Prop} {n : Nat}
/-- Three may come up. -/
theorem anyN_three (i j q : Nat) {l : List Oper} {mi mj mq : List Oper} {oi oj oq : Oper} {k : Nat} {got : Array Bool} {a : Act} {w : World} (hi : l.drop i = oi :: mi) (hj : l.drop j = oj :: mj) (hq : l.drop q = oq :: mq)
    (hr : Region.ready md l.toArray got = [i, j, q]) (gi : oi.guard = none) (gj : oj.guard = none) (gq : oq.guard = none)
    (h1 : oi.wp P a w (fun a' w' => (i < n → S w') ∧ anyN P md l.toArray Q S n k (got.setIfInBounds i true) a' w') Q)
    (h2 : oj.wp P a w (fun a' w' => (j < n → S w') ∧ anyN P md l.toArray Q S n k (got.setIfInBounds j true) a' w') Q)
    (h3 : oq.wp P a w (fun a' w' => (q < n → S w') ∧ anyN P md l.toArray Q S n k (got.setIfInBounds q true) a' w') Q) : anyN P md l.toArray Q S n (k + 1) got a w := by
  have at_ : ∀ (i : Nat) (o : Oper) (m : List Oper), l.drop i = o :: m → l.toArray[i]? = some o := fun i o m h => by
    have h0 : (l.drop i)[0]? = some o := by rw [h]; rfl
    rw [List.getElem?_drop] at h0
    simpa using h0
  refine ⟨fun h0 => (by rw [hr] at h0; cases h0), fun x hx => ?_⟩
  rw [hr] at hx
  unfold wpOp
  simp only [List.mem_cons, List.not_mem_nil, or_false] at hx
  rcases hx with rfl | rfl | rfl
  · simp only [at_ _ _ _ hi]
    rw [if_pos (by simp [Region.wanted, gi])]
    exact .inl h1
  · simp only [at_ _ _ _ hj]
    rw [if_pos (by simp [Region.wanted, gj])]
    exact .inl h2
  · simp only [at_ _ _ _ hq]
    rw [if_pos (by simp [Region.wanted, gq])]
    exact .inl h3
end
/-- The cell that gathers errors holds none. -/
def Zd (w : World) (b : Nat) : Prop := At w ⟨b, 0, none⟩ (.int .i64 0) ∧ Fz w b
theorem Zd.kp {w w' : World} {b : Nat} (h : Zd w b) (k : Kp w.heap.size w w') : Zd w' b := ⟨h.1.kp k, h.2.kp k⟩

set_option maxRecDepth 100000 in
set_option maxHeartbeats 1000000 in
theorem do15 {a b c d n m : Int} (W : World) (bb : Nat) (hz : Zd W bb) (h : plN a b c d = n ∧ plD a b c d = m ∧ plE a b c d = 0) :
    Calls Try.prog 14 #[.func (.func 15) #[] #[], shr a b, shr c d, .pointer (some ⟨bb, 0, none⟩)] W fun e w' => e = .returned (shr n m) ∧ GrewS W w' := by
  have H' := fun w => plus_any a b c d w
  rw [h.1, h.2.1, h.2.2] at H'
  have H := fun w => Lib.hid (H' w)
  have HZ := Lib.hid hz
  clear h H' hz
  go_enter Try.func14, Try.ntmps14
  go_wp2_with fail
  (with_reducible refine (H _).out.mono ?_)
  rintro e w1 ⟨rfl, hg⟩
  have B := (Bx.new W a b c d 25).grew hg
  have Z := HZ.out.kp B.G.kp
  have R := B.R
  have F := B.F
  have HG := Lib.hid B.G
  clear hg B HZ H
  have Z0 := Z.1.1
  have Zl : bb < w1.heap.size := Z.1.2
  have ZF := Z.2.2
  have hid := World.setCell_id Z0
  have R0 := R.c0
  have R1 := R.c1
  have Rl := R.lt
  have F2 := F.2
  go_wp2_with fail
  try rw [hid]
  exact bodyPost_ret (v := shr n m) (by simp [results, Try.results14, go_sem, R0, R1, Rl]) rfl ⟨rfl, by
    try simp only [hid]
    first | exact (HG.out.set2 (B := W.heap.size + 1 + 1) (by omega) _ _).alloc _ | exact (HG.out.alloc _).set2 (B := W.heap.size + 1 + 1) (by omega) _ _⟩

set_option maxRecDepth 100000 in
set_option maxHeartbeats 1000000 in
theorem do16 {a b c d n m : Int} (W : World) (bb : Nat) (hz : Zd W bb) (h : tmN a b c d = n ∧ tmD a b c d = m ∧ tmE a b c d = 0) :
    Calls Try.prog 14 #[.func (.func 16) #[] #[], shr a b, shr c d, .pointer (some ⟨bb, 0, none⟩)] W fun e w' => e = .returned (shr n m) ∧ GrewS W w' := by
  have H' := fun w => times_any a b c d w
  rw [h.1, h.2.1, h.2.2] at H'
  have H := fun w => Lib.hid (H' w)
  have HZ := Lib.hid hz
  clear h H' hz
  go_enter Try.func14, Try.ntmps14
  go_wp2_with fail
  (with_reducible refine (H _).out.mono ?_)
  rintro e w1 ⟨rfl, hg⟩
  have B := (Bx.new W a b c d 25).grew hg
  have Z := HZ.out.kp B.G.kp
  have R := B.R
  have F := B.F
  have HG := Lib.hid B.G
  clear hg B HZ H
  have Z0 := Z.1.1
  have Zl : bb < w1.heap.size := Z.1.2
  have ZF := Z.2.2
  have hid := World.setCell_id Z0
  have R0 := R.c0
  have R1 := R.c1
  have Rl := R.lt
  have F2 := F.2
  go_wp2_with fail
  try rw [hid]
  exact bodyPost_ret (v := shr n m) (by simp [results, Try.results14, go_sem, R0, R1, Rl]) rfl ⟨rfl, by
    try simp only [hid]
    first | exact (HG.out.set2 (B := W.heap.size + 1 + 1) (by omega) _ _).alloc _ | exact (HG.out.alloc _).set2 (B := W.heap.size + 1 + 1) (by omega) _ _⟩

set_option maxRecDepth 100000 in
set_option maxHeartbeats 1000000 in
theorem do17 {a b c d n m : Int} (W : World) (bb : Nat) (hz : Zd W bb) (h : leN a b c d = n ∧ leD a b c d = m ∧ leE a b c d = 0) :
    Calls Try.prog 14 #[.func (.func 17) #[] #[], shr a b, shr c d, .pointer (some ⟨bb, 0, none⟩)] W fun e w' => e = .returned (shr n m) ∧ GrewS W w' := by
  have H' := fun w => less_any a b c d w
  rw [h.1, h.2.1, h.2.2] at H'
  have H := fun w => Lib.hid (H' w)
  have HZ := Lib.hid hz
  clear h H' hz
  go_enter Try.func14, Try.ntmps14
  go_wp2_with fail
  (with_reducible refine (H _).out.mono ?_)
  rintro e w1 ⟨rfl, hg⟩
  have B := (Bx.new W a b c d 25).grew hg
  have Z := HZ.out.kp B.G.kp
  have R := B.R
  have F := B.F
  have HG := Lib.hid B.G
  clear hg B HZ H
  have Z0 := Z.1.1
  have Zl : bb < w1.heap.size := Z.1.2
  have ZF := Z.2.2
  have hid := World.setCell_id Z0
  have R0 := R.c0
  have R1 := R.c1
  have Rl := R.lt
  have F2 := F.2
  go_wp2_with fail
  try rw [hid]
  exact bodyPost_ret (v := shr n m) (by simp [results, Try.results14, go_sem, R0, R1, Rl]) rfl ⟨rfl, by
    try simp only [hid]
    first | exact (HG.out.set2 (B := W.heap.size + 1 + 1) (by omega) _ _).alloc _ | exact (HG.out.alloc _).set2 (B := W.heap.size + 1 + 1) (by omega) _ _⟩

set_option maxRecDepth 100000 in
set_option maxHeartbeats 1000000 in
theorem do18 {a b c d n m : Int} (W : World) (bb : Nat) (hz : Zd W bb) (h : ovN a b c d = n ∧ ovD a b c d = m ∧ ovE a b c d = 0) :
    Calls Try.prog 14 #[.func (.func 18) #[] #[], shr a b, shr c d, .pointer (some ⟨bb, 0, none⟩)] W fun e w' => e = .returned (shr n m) ∧ GrewS W w' := by
  have H' := fun w => over_any a b c d w
  rw [h.1, h.2.1, h.2.2] at H'
  have H := fun w => Lib.hid (H' w)
  have HZ := Lib.hid hz
  clear h H' hz
  go_enter Try.func14, Try.ntmps14
  go_wp2_with fail
  (with_reducible refine (H _).out.mono ?_)
  rintro e w1 ⟨rfl, hg⟩
  have B := (Bx.new W a b c d 25).grew hg
  have Z := HZ.out.kp B.G.kp
  have R := B.R
  have F := B.F
  have HG := Lib.hid B.G
  clear hg B HZ H
  have Z0 := Z.1.1
  have Zl : bb < w1.heap.size := Z.1.2
  have ZF := Z.2.2
  have hid := World.setCell_id Z0
  have R0 := R.c0
  have R1 := R.c1
  have Rl := R.lt
  have F2 := F.2
  go_wp2_with fail
  try rw [hid]
  exact bodyPost_ret (v := shr n m) (by simp [results, Try.results14, go_sem, R0, R1, Rl]) rfl ⟨rfl, by
    try simp only [hid]
    first | exact (HG.out.set2 (B := W.heap.size + 1 + 1) (by omega) _ _).alloc _ | exact (HG.out.alloc _).set2 (B := W.heap.size + 1 + 1) (by omega) _ _⟩
end Go.Proofs.Ytjffikiebeneaaa
