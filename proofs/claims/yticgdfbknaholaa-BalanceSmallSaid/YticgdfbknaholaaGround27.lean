/-
  The ground: small laws of worlds, rows, cells and drawn regions.
-/
import Derived.WalkKit
import Derived.WalkSpells
import Derived.WalkLawsBesides
import Derived.BigQuiet
import Derived.Deep.DeepMust
import Derived.Lib.Hide
import Derived.Laws.IdiomRangeMap
import Derived.ProofKit
import Derived.OpenShut
import Derived.Deep.DeepHandedRow
import Derived.Lib.LaidTab
import Derived.StillTail
import Derived.OrdersHeld
import Derived.Deep.RegionHeld

namespace Go.Proofs.Yticgdfbknaholaa
open Go.RowKit

structure Kp (B : Nat) (w w' : World) : Prop where
  os : w'.os = w.os
  output : w'.output = w.output
  size : w.heap.size ≤ w'.heap.size
  block : ∀ k, k < B → w'.heap[k]? = w.heap[k]?

theorem Kp.refl (B : Nat) (w : World) : Kp B w w := ⟨rfl, rfl, Nat.le_refl _, fun _ _ => rfl⟩
theorem Kp.trans {B : Nat} {a b c : World} (h : Kp B a b) (k : Kp B b c) : Kp B a c :=
  ⟨k.os.trans h.os, k.output.trans h.output, Nat.le_trans h.size k.size, fun i hi => (k.block i hi).trans (h.block i hi)⟩
theorem Kp.mono {B B' : Nat} {w w' : World} (h : Kp B w w') (hB : B' ≤ B) : Kp B' w w' := ⟨h.os, h.output, h.size, fun k hk => h.block k (Nat.lt_of_lt_of_le hk hB)⟩
theorem Kp.of_below {B : Nat} {w w' : World} (h : Below B w w') : Kp B w w' := ⟨h.os, h.output, h.size, h.block⟩
theorem Kp.drewN {B : Nat} {a w : World} (h : Kp B a w) (n : Nat) : Kp B a (w.drewN n) := ⟨h.os, h.output, h.size, h.block⟩
theorem Kp.drew {B : Nat} {a w : World} (h : Kp B a w) : Kp B a w.drew := ⟨h.os, h.output, h.size, h.block⟩
theorem Kp.alloc {B : Nat} {a w : World} (h : Kp B a w) (hB : B ≤ w.heap.size) (o : Obj) : Kp B a (w.alloc o) :=
  h.trans (Kp.of_below ((Below.refl B w).alloc hB o))
theorem Kp.setCell {B : Nat} {a w : World} (h : Kp B a w) {p : Addr} (hp : B ≤ p.block) (u : Value) : Kp B a (w.setCell p u) :=
  h.trans (Kp.of_below ((Below.refl B w).setCell hp u))
theorem Kp.alike {B : Nat} {a w w1 : World} (h : Kp B a w) (ha : w1.Alike w) : Kp B a w1 :=
  h.trans ⟨ha.2.1, ha.2.2, by rw [ha.1]; exact Nat.le_refl _, fun k _ => by rw [ha.1]⟩
theorem Kp.cell {B : Nat} {w w' : World} (h : Kp B w w') {p : Addr} (hp : p.block < B) : w'.cell? p = w.cell? p := World.cell?_of_block (w := w) (h.block p.block hp)
theorem Kp.frozen {B : Nat} {w w' : World} (h : Kp B w w') {p : Addr} (hp : p.block < B) : w'.frozen? p = w.frozen? p := World.frozen?_of_block (w := w) (h.block p.block hp)
theorem Kp.frame {W w' : World} (h : Kp W.heap.size W w') (may : MemPlace → Prop) : W.keptBut w' may := by
  refine ⟨h.os, h.output, fun i hi => ?_⟩
  rw [h.block i hi]
  split <;> simp_all
theorem Kp.same {W w' : World} (h : Kp W.heap.size W w') {p : MemPlace} (hp : p.block < W.heap.size) : W.sameAt w' p := by
  cases p with
  | cell b o => exact World.cell?_of_block (w := W) (h.block b hp)
  | map b => exact h.block b hp

theorem ret1 {a a' : Int} (h1 : a = a') : Ending.returned (.int .i64 a) = Ending.returned (.int .i64 a') := by rw [h1]
theorem ret2 {a a' b b' : Int} (h1 : a = a') (h2 : b = b') : Ending.returned (.tuple #[.int .i64 a, .int .i64 b]) = Ending.returned (.tuple #[.int .i64 a', .int .i64 b']) := by rw [h1, h2]
theorem ret3 {a a' b b' c c' : Int} (h1 : a = a') (h2 : b = b') (h3 : c = c') : Ending.returned (.tuple #[.int .i64 a, .int .i64 b, .int .i64 c]) = Ending.returned (.tuple #[.int .i64 a', .int .i64 b', .int .i64 c']) := by rw [h1, h2, h3]
theorem retB {a a' : Bool} (h1 : a = a') : Ending.returned (.bool a) = Ending.returned (.bool a') := by rw [h1]

/-- The cells of a slice of whole numbers that came in. -/
def IsInts (W : World) (k : IntKind) (a : Option Addr) (len : Nat) (zs : List Int) : Prop :=
  ∀ i, i < len → ∃ b off, a = some ⟨b, off, none⟩ ∧ b < W.heap.size ∧ W.cell? ⟨b, off + i, none⟩ = some (.int k (zs.getD i 0))
theorem IsInts.kp {W w : World} {k : IntKind} {a : Option Addr} {len : Nat} {zs : List Int} (h : IsInts W k a len zs) (hk : Kp W.heap.size W w) {i : Nat} (hi : i < len) :
    ∃ b off, a = some ⟨b, off, none⟩ ∧ w.cell? ⟨b, off + i, none⟩ = some (.int k (zs.getD i 0)) := by
  obtain ⟨b, off, h1, h2, h3⟩ := h i hi
  exact ⟨b, off, h1, (hk.cell (p := ⟨b, off + i, none⟩) h2).trans h3⟩
theorem IsInts.below {W w : World} {k : IntKind} {a : Option Addr} {len : Nat} {zs : List Int} (h : IsInts W k a len zs) (hk : Kp W.heap.size W w) : IsInts w k a len zs := by
  intro i hi
  obtain ⟨b, off, h1, h2, h3⟩ := h i hi
  exact ⟨b, off, h1, Nat.lt_of_lt_of_le h2 hk.size, (hk.cell (p := ⟨b, off + i, none⟩) h2).trans h3⟩
theorem cell_lt {W : World} {a : Addr} {v : Value} (h : W.cell? a = some v) : a.block < W.heap.size := by
  rcases Nat.lt_or_ge a.block W.heap.size with h1 | h1
  · exact h1
  · simp [World.cell?, Array.getElem?_eq_none h1] at h
end Go.Proofs.Yticgdfbknaholaa

namespace Go.Proofs.Yticgdfbknaholaa
open Go.RowKit Go.ChangeShapes Go.WideShapes

theorem trodAll_stays {H : Type} {enc : TypeId × Value → H} {P : Program} (hl : laidOutB P = true) {W W' : World} (hk : Kp W.heap.size W W') :
    ∀ (ts : List TypeId) (vs : List Value) (ds : List (DataW H)) (ps : List MemPlace), ts.all (fun t => P.readableRec t && decide (t < P.types.size)) = true →
      DataW.TrodAll enc P W 0 (fun _ => true) true ts vs ds ps → (∀ x ∈ ps, x.block < W.heap.size) → DataW.TrodAll enc P W' 0 (fun b => decide (b < W.heap.size)) true ts vs ds ps
  | [], [], [], _, _, h, _ => h
  | t :: ts, v :: vs, d :: ds, ps, ha, h, hlt => by
    obtain ⟨p, q, h1, h2, rfl⟩ := h
    rw [List.all_cons, Bool.and_eq_true, Bool.and_eq_true, decide_eq_true_eq] at ha
    refine ⟨p, q, ?_, trodAll_stays hl hk ts vs ds q ha.2 h2 (fun x hx => hlt x (List.mem_append_right _ hx)), rfl⟩
    exact WideElems.Trod_stays hl ha.1.1 ha.1.2 h1 (fun x hx => hk.same (hlt x (List.mem_append_left _ hx))) (fun x hx => by simpa using hlt x (List.mem_append_left _ hx))
  | [], _ :: _, _, _, _, h, _ => h.elim
  | [], [], _ :: _, _, _, h, _ => h.elim
  | _ :: _, [], _, _, _, h, _ => h.elim
  | _ :: _, _ :: _, [], _, _, h, _ => h.elim

theorem law_post {H : Type} {enc : TypeId × Value → H} {P : Program} {f : Func} {s : ChangeSpec} {W W' : World} {args : Array Value} {ds gs : List (DataW H)} {before : List MemPlace} {tb : TypeId}
    (hl : laidOutB P = true) (hts : f.params.toList.all (fun t => P.readableRec t && decide (t < P.types.size)) = true)
    (htb : P.underlying tb = some .bool) (hrt : f.resultTypes = #[tb]) (hv : s.vars = [])
    (hfn : s.fn H (ds ++ gs) = { results := [.lit (.bool true)], args := ds })
    (hW : DataW.Whole enc P f.params.toList s.vars false W args.toList ds gs before) (hk : Kp W.heap.size W W') :
    s.post enc P f false true false false W args (.bool true) W' := by
  obtain ⟨p, q, hA, hV, rfl, hz, hn⟩ := id hW
  have hlt := hW.lt
  refine ⟨ds, gs, p ++ q, [], p, [], hW, ?_, ?_, ?_, hk.frame _, fun h => by cases h⟩
  · rw [hfn, hrt]
    exact trodAll_mk1 (shut_bool htb true)
  · rw [hfn]
    exact trodAll_stays hl hk _ _ _ _ hts hA (fun x hx => hlt x (List.mem_append_left _ hx))
  · rw [hfn, hv]
    rfl

/-- A slice of whole numbers that came in, opened: nil or not. -/
theorem open_ints_any {H : Type} {enc : TypeId × Value → H} {P : Program} {W : World} {t e : TypeId} {k : IntKind} {v : Value} {d : DataW H} {p : List MemPlace} {b : Nat}
    (ht : P.underlying t = some (.slice e)) (he : P.underlying e = some (.int k)) (hc : P.cellsOf e = 1)
    (hv : Value.okWide P W .any b t v) (hj : DataW.Trod enc P W 0 (fun _ => true) true t v d p) :
    ∃ (a : Option Addr) (len cap : Nat) (zs : List Int), v = .slice a len cap ∧ zs.length = len ∧ len ≤ cap ∧ (cap : Int) ≤ 9223372036854775807 ∧ (a = none → cap = 0) ∧ IsInts W k a len zs ∧ (∀ n ∈ zs, (Lit.int k n).wf = true) := by
  obtain ⟨a0, len, cap, rfl⟩ := okWide_slice ht hv
  obtain ⟨fuel, hf⟩ := hj
  rcases open_ints ht he hc hf with ⟨hcs, hx⟩ | ⟨a, len', cap', zs, hcs, _, hl, hm, hz, hx, hcell, hwz⟩
  · simp only [Value.cells, List.cons.injEq, Value.slice.injEq, and_true] at hcs
    obtain ⟨rfl, rfl, rfl⟩ := hcs
    exact ⟨none, 0, 0, [], rfl, rfl, Nat.le_refl _, by omega, fun _ => rfl, fun i hi => by omega, fun n hn => by cases hn⟩
  · simp only [Value.cells, List.cons.injEq, Value.slice.injEq, and_true] at hcs
    obtain ⟨rfl, rfl, rfl⟩ := hcs
    simp only [if_true] at hz
    unfold maxLen at hm
    refine ⟨some a, len, cap, zs.take len, rfl, by simp; omega, hl, by omega, (fun h => by cases h), fun i hi => ?_, fun n hn => hwz n (List.mem_of_mem_take hn)⟩
    obtain ⟨bb, off, rfl, hcc⟩ := ints_at hcell (by omega)
    have h1 := hcc i (by omega)
    refine ⟨bb, off, rfl, cell_lt h1, ?_⟩
    rw [h1]
    simp [List.getD_eq_getElem?_getD, hi]
end Go.Proofs.Yticgdfbknaholaa

namespace Go

def World.more (w : World) (os : List Obj) : World := os.foldl World.alloc w

theorem World.more_heap : ∀ (os : List Obj) (w : World), (w.more os).heap.toList = w.heap.toList ++ os
  | [], w => by simp [World.more]
  | o :: os, w => by
    have h := World.more_heap os (w.alloc o)
    have e : (w.alloc o).heap.toList = w.heap.toList ++ [o] := by
      show (w.heap.push o).toList = _
      simp
    show ((w.alloc o).more os).heap.toList = _
    rw [h, e, List.append_assoc]
    rfl
@[simp, go_sem] theorem World.more_size (w : World) (os : List Obj) : (w.more os).heap.size = w.heap.size + os.length := by
  have h := congrArg List.length (World.more_heap os w)
  simpa using h
theorem World.more_block (w : World) (os : List Obj) (k : Nat) (h : k < w.heap.size) : (w.more os).heap[k]? = w.heap[k]? := by
  rw [← Array.getElem?_toList, World.more_heap, List.getElem?_append_left (by simpa using h), Array.getElem?_toList]
@[simp, go_sem] theorem World.cell?_more (w : World) (os : List Obj) (a : Addr) (h : a.block < w.heap.size) : (w.more os).cell? a = w.cell? a :=
  World.cell?_of_block (w.more_block os a.block h)
@[simp, go_sem] theorem World.frozen?_more (w : World) (os : List Obj) (a : Addr) (h : a.block < w.heap.size) : (w.more os).frozen? a = w.frozen? a :=
  World.frozen?_of_block (w.more_block os a.block h)
theorem World.more_os : ∀ (os : List Obj) (w : World), (w.more os).os = w.os ∧ (w.more os).output = w.output
  | [], _ => ⟨rfl, rfl⟩
  | o :: os, w => World.more_os os (w.alloc o)
theorem World.alloc_more (w : World) (o : Obj) : w.alloc o = w.more [o] := rfl
theorem World.more_alloc (w : World) (os : List Obj) (o : Obj) : (w.more os).alloc o = w.more (os ++ [o]) := by
  unfold World.more
  rw [List.foldl_append]
  rfl
theorem World.more_more (w : World) (os us : List Obj) : (w.more os).more us = w.more (os ++ us) := by
  unfold World.more
  rw [List.foldl_append]
theorem World.drewN_more : ∀ (os : List Obj) (w : World) (n : Nat), (w.drewN n).more os = (w.more os).drewN n
  | [], _, _ => rfl
  | o :: os, w, n => World.drewN_more os (w.alloc o) n
theorem World.more_rest : ∀ (os : List Obj) (w : World), (w.more os).tape = w.tape ∧ (w.more os).drawn = w.drawn ∧ (w.more os).os = w.os ∧ (w.more os).output = w.output
  | [], _ => ⟨rfl, rfl, rfl, rfl⟩
  | o :: os, w => World.more_rest os (w.alloc o)
end Go
namespace Go.Proofs.Yticgdfbknaholaa
open Go.RowKit
theorem Kp.more {B : Nat} {a w : World} (h : Kp B a w) (hB : B ≤ w.heap.size) (os : List Obj) : Kp B a (w.more os) :=
  h.trans ⟨(World.more_os os w).1, (World.more_os os w).2, by simp, fun k hk => World.more_block w os k (by omega)⟩

/-- n blocks more, and draws. -/
def Grew (n : Nat) (w w' : World) : Prop := ∃ (os : List Obj) (m : Nat), os.length = n ∧ w' = (w.more os).drewN m
theorem Grew.zero (w : World) : Grew 0 w w := ⟨[], 0, rfl, rfl⟩
theorem Grew.alloc {n : Nat} {w w' : World} (h : Grew n w w') (o : Obj) : Grew (n + 1) w (w'.alloc o) := by
  obtain ⟨os, m, hl, rfl⟩ := h
  refine ⟨os ++ [o], m, by simp [hl], ?_⟩
  rw [← World.more_alloc]
  rfl
theorem Grew.more {n k : Nat} {w w' : World} {us : List Obj} (h : Grew n w w') (hu : us.length = k) : Grew (n + k) w (w'.more us) := by
  obtain ⟨os, m, hl, rfl⟩ := h
  refine ⟨os ++ us, m, by simp [hl, hu], ?_⟩
  rw [← World.more_more, World.drewN_more]
theorem Grew.drewN {n : Nat} {w w' : World} (h : Grew n w w') (k : Nat) : Grew n w (w'.drewN k) := by
  obtain ⟨os, m, hl, rfl⟩ := h
  exact ⟨os, m + k, hl, by rw [World.drewN_drewN]⟩
theorem Grew.trans {n k : Nat} {a b c : World} (h : Grew n a b) (h' : Grew k b c) : Grew (n + k) a c := by
  obtain ⟨us, m, hu, rfl⟩ := h'
  exact (h.more hu).drewN m
theorem Grew.size {n : Nat} {w w' : World} (h : Grew n w w') : w'.heap.size = w.heap.size + n := by
  obtain ⟨os, m, hl, rfl⟩ := h
  simp [hl]
theorem world_ext {x y : World} (h1 : x.heap = y.heap) (h2 : x.tape = y.tape) (h3 : x.drawn = y.drawn) (h4 : x.os = y.os) (h5 : x.output = y.output) : x = y := by
  cases x; cases y
  simp_all
theorem Grew.setCell {n : Nat} {w w' : World} (h : Grew n w w') {a : Addr} (ha : w.heap.size ≤ a.block) (v : Value) : Grew n w (w'.setCell a v) := by
  obtain ⟨os, m, hl, rfl⟩ := h
  have e : (((w.more os).drewN m).setCell a v).heap.toList = w.heap.toList ++ ((((w.more os).drewN m).setCell a v).heap.toList.drop w.heap.size) := by
    apply List.ext_getElem?
    intro i
    rcases Nat.lt_or_ge i w.heap.size with hi | hi
    · rw [List.getElem?_append_left (by simpa using hi), Array.getElem?_toList, Below.heap_setCell _ _ _ _ (by omega), Array.getElem?_toList]
      exact World.more_block w os i hi
    · rw [List.getElem?_append_right (by simpa using hi), List.getElem?_drop]
      congr 1
      simp
      omega
  have hs : (((w.more os).drewN m).setCell a v).heap.size = w.heap.size + n := by simp [World.setCell, hl]
  refine ⟨(((w.more os).drewN m).setCell a v).heap.toList.drop w.heap.size, m, by simp [hs], ?_⟩
  have e3 := World.more_rest ((((w.more os).drewN m).setCell a v).heap.toList.drop w.heap.size) w
  have e4 := World.more_rest os w
  refine world_ext ?_ ?_ ?_ ?_ ?_
  · apply Array.toList_inj.1
    exact e.trans (World.more_heap _ w).symm
  · exact e4.1.trans e3.1.symm
  · show (w.more os).drawn + m = (w.more _).drawn + m
    rw [e3.2.1, e4.2.1]
  · exact e4.2.2.1.trans e3.2.2.1.symm
  · exact e4.2.2.2.trans e3.2.2.2.symm
/-- Some blocks more, and draws. -/
def GrewS (w w' : World) : Prop := ∃ n, Grew n w w'
theorem Grew.s {n : Nat} {w w' : World} (h : Grew n w w') : GrewS w w' := ⟨n, h⟩
theorem GrewS.refl (w : World) : GrewS w w := ⟨0, Grew.zero w⟩
theorem GrewS.trans {a b c : World} (h : GrewS a b) (h' : GrewS b c) : GrewS a c := by
  obtain ⟨n, h⟩ := h
  obtain ⟨k, h'⟩ := h'
  exact ⟨_, h.trans h'⟩
theorem GrewS.alloc {w w' : World} (h : GrewS w w') (o : Obj) : GrewS w (w'.alloc o) := by
  obtain ⟨n, h⟩ := h
  exact ⟨_, h.alloc o⟩
theorem GrewS.drewN {w w' : World} (h : GrewS w w') (k : Nat) : GrewS w (w'.drewN k) := by
  obtain ⟨n, h⟩ := h
  exact ⟨_, h.drewN k⟩
theorem GrewS.drew {w w' : World} (h : GrewS w w') : GrewS w w'.drew := h.drewN 1
theorem GrewS.more {w w' : World} (h : GrewS w w') (os : List Obj) : GrewS w (w'.more os) := by
  obtain ⟨n, h⟩ := h
  exact ⟨_, h.more rfl⟩
theorem GrewS.setCell {w w' : World} (h : GrewS w w') {a : Addr} (ha : w.heap.size ≤ a.block) (v : Value) : GrewS w (w'.setCell a v) := by
  obtain ⟨n, h⟩ := h
  exact ⟨_, h.setCell ha v⟩
theorem Grew.kp {n : Nat} {w w' : World} (h : Grew n w w') : Kp w.heap.size w w' := by
  obtain ⟨os, m, _, rfl⟩ := h
  exact ((Kp.refl _ _).more (Nat.le_refl _) os).drewN m
theorem GrewS.kp {w w' : World} (h : GrewS w w') : Kp w.heap.size w w' := by
  obtain ⟨n, h⟩ := h
  exact h.kp
end Go.Proofs.Yticgdfbknaholaa

namespace Go.Proofs.Yticgdfbknaholaa
variable {P : Program} {ops : Array Oper} {Q : Exit → Act → World → Prop} {md : Region.Mode} {S : World → Prop} {n : Nat}

/-- Whatever order is picked, and S holds behind each of the first n operations. -/
def anyN (P : Program) (md : Region.Mode) (ops : Array Oper) (Q : Exit → Act → World → Prop) (S : World → Prop) (n : Nat) : Nat → Array Bool → Act → World → Prop
  | 0, got, a, w => Region.ready md ops got = [] ∧ Q .normal a w
  | k + 1, got, a, w =>
    (Region.ready md ops got = [] → Q .normal a w) ∧
    ∀ i ∈ Region.ready md ops got, wpOp P ops Q i (fun a' w' => (i < n → S w') ∧ anyN P md ops Q S n k (got.setIfInBounds i true) a' w') a w

theorem any_of_anyN : ∀ (k : Nat) (got : Array Bool) (a : Act) (w : World), anyN P md ops Q S n k got a w → wpAny P md ops Q k got a w
  | 0, _, _, _, h => h
  | k + 1, _, _, _, h => ⟨h.1, fun i hi => wpOp_mono (fun _ _ h' => any_of_anyN k _ _ _ h'.2) (h.2 i hi)⟩

/-- As a Bool: what has come up is closed, and no late one has. -/
def headB (md : Region.Mode) (ops : Array Oper) (n : Nat) (got : Array Bool) : Bool :=
  decide (got.size = ops.size) && decide (n < ops.size) && Region.sinkB md ops n && Region.chainB md ops n &&
  ((List.range ops.size).all fun j => !got.getD j false || ((ops[j]?).map fun o => o.after.all fun e => !Region.binds md e || got.getD e.on false).getD true) &&
  ((List.range ops.size).all fun t => decide (t < n) || !got.getD t true)

theorem headB_spec {got : Array Bool} (h : headB md ops n got = true) :
    HeadInv md ops n got ∧ n < ops.size ∧ Region.sinkB md ops n = true ∧ Region.chainB md ops n = true := by
  unfold headB at h
  simp only [Bool.and_eq_true, decide_eq_true_eq] at h
  obtain ⟨⟨⟨⟨⟨h1, h2⟩, h3⟩, h4⟩, h5⟩, h6⟩ := h
  refine ⟨⟨h1, fun j o ho hg e he hb => ?_, fun t ht ht' => ?_⟩, h2, h3, h4⟩
  · have hj : j < ops.size := (Array.getElem?_eq_some_iff.1 ho).1
    have h := List.all_eq_true.1 h5 j (List.mem_range.2 hj)
    rw [hg, ho] at h
    simp only [Bool.not_true, Bool.false_or, Option.map_some, Option.getD_some] at h
    have h := Array.all_eq_true'.1 h e he
    rw [hb] at h
    simpa using h
  · have h := List.all_eq_true.1 h6 t (List.mem_range.2 ht')
    simp only [Bool.or_eq_true, decide_eq_true_eq] at h
    rcases h with h | h
    · omega
    · simpa using h

theorem anyN_first {i : Nat} {oi : Oper} {v : Value} (hi : ops[i]? = some oi) (hsel : ∀ (j : Nat) (o : Oper) cs b, ops[j]? = some o → o.op ≠ .select cs b)
    (hQ : ∀ c a w, Q (.panic c) (a.put oi.dst v) w → Q (.panic c) a w) (hn : n < ops.size) (hs : Region.sinkB md ops n = true) (hc : Region.chainB md ops n = true) (hin : i < n) :
    ∀ (k : Nat) (got : Array Bool) (a : Act) (w : World), HeadInv md ops n got →
      (∀ j oj, ops[j]? = some oj → j ≠ i → got.getD j true = false → (∀ e ∈ oj.after, Region.binds md e = true → e.on ≠ i) → oi.apart ops oj = true) →
      i ∈ Region.ready md ops got → YieldsIf P ops S oi v a → S w →
      anyN P md ops Q S n k (got.setIfInBounds i true) (a.put oi.dst v) w → anyN P md ops Q S n (k + 1) got a w
  | k, got, a, w, inv, hfree, hr, hy, hS, H => by
    refine ⟨fun h0 => (by rw [h0] at hr; cases hr), fun j hj => ?_⟩
    by_cases hji : j = i
    · cases hji; exact hy.wpOp hi hS ⟨fun _ => hS, H⟩
    have hun := (mem_ready.1 hr).1
    have hjn : j < n := by
      rcases Nat.lt_or_ge j n with h | h
      · exact h
      · exact absurd hj (tail_waits hs hc hn inv _ i rfl hin hun j h)
    have hj2 := ready_mono hj hji
    cases k with
    | zero => rw [H.1] at hj2; cases hj2
    | succ k =>
      obtain ⟨hjun, oj, hoj, hall⟩ := mem_ready.1 hj
      have hnot : ∀ e ∈ oj.after, Region.binds md e = true → e.on ≠ i := fun e he hb heq => by
        have h1 := hall e he hb
        rw [heq, getD_both hun] at h1
        cases h1
      have h2 := wpOp_putIf hoj (hfree j oj hoj hji hjun hnot) (fun cs b => hsel i oi cs b hi) (fun cs b => hsel j oj cs b hoj) hQ hy (H.2 j hj2)
      refine wpOp_mono (fun a' w' h3 => ⟨h3.2.1, ?_⟩) h2
      refine anyN_first hi hsel hQ hn hs hc hin k (got.setIfInBounds j true) a' w' (inv.set hj hjn) (fun l ol hl hli hlun hno => ?_) (ready_mono hr (Ne.symm hji)) h3.1 (h3.2.1 hjn) ?_
      · refine hfree l ol hl hli ?_ hno
        by_cases hjl : j = l
        · cases hjl; exact hjun
        · rwa [getD_set_ne true hjl] at hlun
      · rw [Array.setIfInBounds_comm _ _ hji]
        exact h3.2.2

/-- Take number i, an early one, first. -/
theorem anyN_take (i : Nat) {l : List Oper} {more : List Oper} {oi : Oper} {v : Value} {k : Nat} {got : Array Bool} {a : Act} {w : World} (hi : l.drop i = oi :: more)
    (hs : Region.noSelect l.toArray = true) (hh : headB md l.toArray n got = true) (hin : decide (i < n) = true) (hf : Region.free md l.toArray got i = true) (hr : (Region.ready md l.toArray got).contains i = true)
    (hQ : ∀ c a w, Q (.panic c) (a.put oi.dst v) w → Q (.panic c) a w) (hy : YieldsIf P l.toArray S oi v a) (hS : S w)
    (h : anyN P md l.toArray Q S n k (got.setIfInBounds i true) (a.put oi.dst v) w) : anyN P md l.toArray Q S n (k + 1) got a w := by
  obtain ⟨inv, h1, h2, h3⟩ := headB_spec hh
  have hi' : l.toArray[i]? = some oi := by
    have h0 : (l.drop i)[0]? = some oi := by rw [hi]; rfl
    rw [List.getElem?_drop] at h0
    simpa using h0
  exact anyN_first hi' (Region.noSelect_spec hs) hQ h1 h2 h3 (by simpa using hin) k got a w inv (Region.free_spec hi' hf) (by simpa using hr) hy hS h

/-- Number i is the only one that may come up. -/
theorem anyN_one (i : Nat) {l : List Oper} {more : List Oper} {oi : Oper} {k : Nat} {got : Array Bool} {a : Act} {w : World} (hi : l.drop i = oi :: more)
    (hr : Region.ready md l.toArray got = [i]) (hg : oi.guard = none)
    (h : oi.wp P a w (fun a' w' => (i < n → S w') ∧ anyN P md l.toArray Q S n k (got.setIfInBounds i true) a' w') Q) : anyN P md l.toArray Q S n (k + 1) got a w := by
  have hi' : l.toArray[i]? = some oi := by
    have h0 : (l.drop i)[0]? = some oi := by rw [hi]; rfl
    rw [List.getElem?_drop] at h0
    simpa using h0
  refine ⟨fun h0 => (by rw [hr] at h0; cases h0), fun j hj => ?_⟩
  rw [hr] at hj
  have hj : j = i := by simpa using hj
  subst hj
  unfold wpOp
  simp only [hi']
  rw [if_pos (by simp [Region.wanted, hg])]
  exact .inl h

theorem anyN_done {got : Array Bool} {a : Act} {w : World} (hr : Region.ready md ops got = []) (h : Q .normal a w) : anyN P md ops Q S n 0 got a w := ⟨hr, h⟩

/-- The beginning. -/
theorem wp_region_anyN (S : World → Prop) (n : Nat) {id : Nat} {a : Act} {w : World} (hm : P.follows .mixedOrders = true)
    (h : anyN P .any ops Q S n ops.size (Array.replicate ops.size false) a w.drew) : (Code.region id ops true).wp P Q a w :=
  wp_region_any hm (any_of_anyN _ _ _ _ h)

theorem and_keep {p q : Prop} (h : p) (k : p → q) : p ∧ q := ⟨h, k h⟩

/-- Three stores into one block. -/
theorem set3 {w : World} {p : Nat} {a b c : Value} (h0 : w.cell? ⟨p, 0, none⟩ = some a) (h1 : w.cell? ⟨p, 1, none⟩ = some b) (h2 : w.cell? ⟨p, 2, none⟩ = some c) (a' b' c' : Value) :
    (((w.setCell ⟨p, 0, none⟩ a').setCell ⟨p, 1, none⟩ b').setCell ⟨p, 2, none⟩ c').cell? ⟨p, 0, none⟩ = some a' ∧
    (((w.setCell ⟨p, 0, none⟩ a').setCell ⟨p, 1, none⟩ b').setCell ⟨p, 2, none⟩ c').cell? ⟨p, 1, none⟩ = some b' ∧
    (((w.setCell ⟨p, 0, none⟩ a').setCell ⟨p, 1, none⟩ b').setCell ⟨p, 2, none⟩ c').cell? ⟨p, 2, none⟩ = some c' ∧
    ∀ x : Addr, p ≠ x.block → (((w.setCell ⟨p, 0, none⟩ a').setCell ⟨p, 1, none⟩ b').setCell ⟨p, 2, none⟩ c').cell? x = w.cell? x := by
  have e01 : (⟨p, 0, none⟩ : Addr) ≠ ⟨p, 1, none⟩ := by simp
  have e02 : (⟨p, 0, none⟩ : Addr) ≠ ⟨p, 2, none⟩ := by simp
  have e12 : (⟨p, 1, none⟩ : Addr) ≠ ⟨p, 2, none⟩ := by simp
  refine ⟨?_, ?_, ?_, fun x hx => ?_⟩
  · rw [World.cell?_setCell_other _ _ _ _ (e02.symm), World.cell?_setCell_other _ _ _ _ (e01.symm), World.cell?_setCell_same _ _ _ (h0)]
  · rw [World.cell?_setCell_other _ _ _ _ (e12.symm)]
    exact World.cell?_setCell_same _ _ _ (((World.cell?_setCell_other _ _ _ _ (e01)).trans h1))
  · exact World.cell?_setCell_same _ _ _ ((((World.cell?_setCell_other _ _ _ _ (e12)).trans (World.cell?_setCell_other _ _ _ _ (e02))).trans h2))
  · have e : ∀ o, (⟨p, o, none⟩ : Addr) ≠ x := fun o h => hx (by rw [← h])
    rw [World.cell?_setCell_other _ _ _ _ (e 2), World.cell?_setCell_other _ _ _ _ (e 1), World.cell?_setCell_other _ _ _ _ (e 0)]
/-- Three stores into each of two blocks. -/
theorem set6 {V w : World} {p q : Nat} (hpq : p ≠ q) (hp : V.heap.size ≤ p) (hq : V.heap.size ≤ q) {a b c d e f : Value} (h : w.cell? ⟨p, 0, none⟩ = some a ∧ w.cell? ⟨p, 1, none⟩ = some b ∧ w.cell? ⟨p, 2, none⟩ = some c ∧ w.cell? ⟨q, 0, none⟩ = some d ∧ w.cell? ⟨q, 1, none⟩ = some e ∧ w.cell? ⟨q, 2, none⟩ = some f)
    (hg : GrewS V w) {a' b' c' d' e' f' : Value} {w1 : World} (hE : (((((w.setCell ⟨p, 0, none⟩ a').setCell ⟨p, 1, none⟩ b').setCell ⟨p, 2, none⟩ c').setCell ⟨q, 0, none⟩ d').setCell ⟨q, 1, none⟩ e').setCell ⟨q, 2, none⟩ f' = w1) :
    (w1.cell? ⟨p, 0, none⟩ = some a' ∧ w1.cell? ⟨p, 1, none⟩ = some b' ∧ w1.cell? ⟨p, 2, none⟩ = some c' ∧ w1.cell? ⟨q, 0, none⟩ = some d' ∧ w1.cell? ⟨q, 1, none⟩ = some e' ∧ w1.cell? ⟨q, 2, none⟩ = some f') ∧ w1.heap.size = w.heap.size ∧ GrewS V w1 := by
  obtain ⟨h0, h1, h2, h3, h4, h5⟩ := h
  obtain ⟨i0, i1, i2, i3⟩ := set3 h0 h1 h2 a' b' c'
  obtain ⟨j0, j1, j2, j3⟩ := set3 ((i3 ⟨q, 0, none⟩ hpq).trans h3) ((i3 ⟨q, 1, none⟩ hpq).trans h4) ((i3 ⟨q, 2, none⟩ hpq).trans h5) d' e' f'
  subst hE
  refine ⟨⟨(j3 ⟨p, 0, none⟩ hpq.symm).trans i0, (j3 ⟨p, 1, none⟩ hpq.symm).trans i1, (j3 ⟨p, 2, none⟩ hpq.symm).trans i2, j0, j1, j2⟩, by simp, ?_⟩
  exact (((((hg.setCell (a := ⟨p, 0, none⟩) hp _).setCell (a := ⟨p, 1, none⟩) hp _).setCell (a := ⟨p, 2, none⟩) hp _).setCell (a := ⟨q, 0, none⟩) hq _).setCell (a := ⟨q, 1, none⟩) hq _).setCell (a := ⟨q, 2, none⟩) hq _
end Go.Proofs.Yticgdfbknaholaa

namespace Go.Proofs.Yticgdfbknaholaa

/-- Three cells of one block. -/
structure C3 (w : World) (B : Nat) (x y z : Value) : Prop where
  c0 : w.cell? ⟨B, 0, none⟩ = some x
  c1 : w.cell? ⟨B, 1, none⟩ = some y
  c2 : w.cell? ⟨B, 2, none⟩ = some z
  lt : B < w.heap.size
theorem C3.kp {w w' : World} {B : Nat} {x y z : Value} (h : C3 w B x y z) (k : Kp w.heap.size w w') : C3 w' B x y z :=
  ⟨(k.cell (p := ⟨B, 0, none⟩) h.lt).trans h.c0, (k.cell (p := ⟨B, 1, none⟩) h.lt).trans h.c1, (k.cell (p := ⟨B, 2, none⟩) h.lt).trans h.c2, Nat.lt_of_lt_of_le h.lt k.size⟩
theorem C3.alloc {w : World} {B : Nat} {x y z : Value} (h : C3 w B x y z) (o : Obj) : C3 (w.alloc o) B x y z := h.kp ((Kp.refl _ _).alloc (Nat.le_refl _) o)
theorem C3.drewN {w : World} {B : Nat} {x y z : Value} (h : C3 w B x y z) (n : Nat) : C3 (w.drewN n) B x y z := h.kp ((Kp.refl _ _).drewN n)
theorem C3.drew {w : World} {B : Nat} {x y z : Value} (h : C3 w B x y z) : C3 w.drew B x y z := h.drewN 1
theorem C3.new (w : World) (x y z : Value) (t : TypeId) : C3 (w.alloc (.cells #[x, y, z] t)) w.heap.size x y z := ⟨by simp, by simp, by simp, by simp⟩
/-- Four cells of one block. -/
structure C4 (w : World) (B : Nat) (x y z u : Value) : Prop where
  c0 : w.cell? ⟨B, 0, none⟩ = some x
  c1 : w.cell? ⟨B, 1, none⟩ = some y
  c2 : w.cell? ⟨B, 2, none⟩ = some z
  c3 : w.cell? ⟨B, 3, none⟩ = some u
  lt : B < w.heap.size
theorem C4.kp {w w' : World} {B : Nat} {x y z u : Value} (h : C4 w B x y z u) (k : Kp w.heap.size w w') : C4 w' B x y z u :=
  ⟨(k.cell (p := ⟨B, 0, none⟩) h.lt).trans h.c0, (k.cell (p := ⟨B, 1, none⟩) h.lt).trans h.c1, (k.cell (p := ⟨B, 2, none⟩) h.lt).trans h.c2, (k.cell (p := ⟨B, 3, none⟩) h.lt).trans h.c3, Nat.lt_of_lt_of_le h.lt k.size⟩
theorem C4.alloc {w : World} {B : Nat} {x y z u : Value} (h : C4 w B x y z u) (o : Obj) : C4 (w.alloc o) B x y z u := h.kp ((Kp.refl _ _).alloc (Nat.le_refl _) o)
theorem C4.drewN {w : World} {B : Nat} {x y z u : Value} (h : C4 w B x y z u) (n : Nat) : C4 (w.drewN n) B x y z u := h.kp ((Kp.refl _ _).drewN n)
theorem C4.drew {w : World} {B : Nat} {x y z u : Value} (h : C4 w B x y z u) : C4 w.drew B x y z u := h.drewN 1
theorem C4.new (w : World) (x y z u : Value) (t : TypeId) : C4 (w.alloc (.cells #[x, y, z, u] t)) w.heap.size x y z u := ⟨by simp, by simp, by simp, by simp, by simp⟩
end Go.Proofs.Yticgdfbknaholaa

namespace Go.Proofs.Yticgdfbknaholaa

section
variable {P : Program} {Q : Exit → Act → World → Prop} {md : Region.Mode} {S : World → Prop} {n : Nat}
/-- Two may come up. -/
theorem anyN_two (i j : Nat) {l : List Oper} {mi mj : List Oper} {oi oj : Oper} {k : Nat} {got : Array Bool} {a : Act} {w : World} (hi : l.drop i = oi :: mi) (hj : l.drop j = oj :: mj)
    (hr : Region.ready md l.toArray got = [i, j]) (gi : oi.guard = none) (gj : oj.guard = none)
    (h1 : oi.wp P a w (fun a' w' => (i < n → S w') ∧ anyN P md l.toArray Q S n k (got.setIfInBounds i true) a' w') Q)
    (h2 : oj.wp P a w (fun a' w' => (j < n → S w') ∧ anyN P md l.toArray Q S n k (got.setIfInBounds j true) a' w') Q) : anyN P md l.toArray Q S n (k + 1) got a w := by
  have at_ : ∀ (i : Nat) (o : Oper) (m : List Oper), l.drop i = o :: m → l.toArray[i]? = some o := fun i o m h => by
    have h0 : (l.drop i)[0]? = some o := by rw [h]; rfl
    rw [List.getElem?_drop] at h0
    simpa using h0
  refine ⟨fun h0 => (by rw [hr] at h0; cases h0), fun x hx => ?_⟩
  rw [hr] at hx
  unfold wpOp
  simp only [List.mem_cons, List.not_mem_nil, or_false] at hx
  rcases hx with rfl | rfl
  · simp only [at_ _ _ _ hi]
    rw [if_pos (by simp [Region.wanted, gi])]
    exact .inl h1
  · simp only [at_ _ _ _ hj]
    rw [if_pos (by simp [Region.wanted, gj])]
    exact .inl h2
end
theorem C3.far {w : World} {B : Nat} {x y z : Value} (h : C3 w B x y z) {p : Addr} (hp : p.block ≠ B) (u : Value) : C3 (w.setCell p u) B x y z :=
  ⟨(World.cell?_setCell_far _ _ _ _ hp).trans h.c0, (World.cell?_setCell_far _ _ _ _ hp).trans h.c1, (World.cell?_setCell_far _ _ _ _ hp).trans h.c2, by simpa using h.lt⟩
theorem C3.set {w : World} {B : Nat} {x y z : Value} (h : C3 w B x y z) (x' y' z' : Value) : C3 (((w.setCell ⟨B, 0, none⟩ x').setCell ⟨B, 1, none⟩ y').setCell ⟨B, 2, none⟩ z') B x' y' z' := by
  obtain ⟨h0, h1, h2, _⟩ := set3 h.c0 h.c1 h.c2 x' y' z'
  exact ⟨h0, h1, h2, by simpa using h.lt⟩
/-- A block that no string shares. -/
def Fz (w : World) (B : Nat) : Prop := B < w.heap.size ∧ ∀ o, w.frozen? ⟨B, o, none⟩ = false
theorem Fz.kp {w w' : World} {B : Nat} (h : Fz w B) (k : Kp w.heap.size w w') : Fz w' B := ⟨Nat.lt_of_lt_of_le h.1 k.size, fun o => (k.frozen (p := ⟨B, o, none⟩) h.1).trans (h.2 o)⟩
theorem Fz.alloc {w : World} {B : Nat} (h : Fz w B) (o : Obj) : Fz (w.alloc o) B := h.kp ((Kp.refl _ _).alloc (Nat.le_refl _) o)
theorem Fz.drew {w : World} {B : Nat} (h : Fz w B) : Fz w.drew B := h.kp ((Kp.refl _ _).drewN 1)
theorem Fz.new (w : World) (c : Array Value) (t : TypeId) : Fz (w.alloc (.cells c t)) w.heap.size := ⟨by simp, fun o => by simp⟩
theorem Fz.set {w : World} {B : Nat} (h : Fz w B) (p : Addr) (u : Value) : Fz (w.setCell p u) B := ⟨by simpa using h.1, fun o => by simpa using h.2 o⟩
end Go.Proofs.Yticgdfbknaholaa

namespace Go.Proofs.Yticgdfbknaholaa

theorem C4.far {w : World} {B : Nat} {x y z u : Value} (h : C4 w B x y z u) {p : Addr} (hp : p.block ≠ B) (t : Value) : C4 (w.setCell p t) B x y z u :=
  ⟨(World.cell?_setCell_far _ _ _ _ hp).trans h.c0, (World.cell?_setCell_far _ _ _ _ hp).trans h.c1, (World.cell?_setCell_far _ _ _ _ hp).trans h.c2, (World.cell?_setCell_far _ _ _ _ hp).trans h.c3, by simpa using h.lt⟩
theorem C3.far3 {w : World} {B p : Nat} {x y z : Value} (h : C3 w B x y z) (hp : p ≠ B) (a b c : Value) : C3 (((w.setCell ⟨p, 0, none⟩ a).setCell ⟨p, 1, none⟩ b).setCell ⟨p, 2, none⟩ c) B x y z :=
  ((h.far (p := ⟨p, 0, none⟩) hp _).far (p := ⟨p, 1, none⟩) hp _).far (p := ⟨p, 2, none⟩) hp _
theorem C4.far3 {w : World} {B p : Nat} {x y z u : Value} (h : C4 w B x y z u) (hp : p ≠ B) (a b c : Value) : C4 (((w.setCell ⟨p, 0, none⟩ a).setCell ⟨p, 1, none⟩ b).setCell ⟨p, 2, none⟩ c) B x y z u :=
  ((h.far (p := ⟨p, 0, none⟩) hp _).far (p := ⟨p, 1, none⟩) hp _).far (p := ⟨p, 2, none⟩) hp _
theorem C3.far4 {w : World} {B p : Nat} {x y z : Value} (h : C3 w B x y z) (hp : p ≠ B) (a b c d : Value) : C3 ((((w.setCell ⟨p, 0, none⟩ a).setCell ⟨p, 1, none⟩ b).setCell ⟨p, 2, none⟩ c).setCell ⟨p, 3, none⟩ d) B x y z :=
  (h.far3 hp a b c).far (p := ⟨p, 3, none⟩) hp _
theorem C4.set {w : World} {B : Nat} {x y z u : Value} (h : C4 w B x y z u) (x' y' z' u' : Value) : C4 ((((w.setCell ⟨B, 0, none⟩ x').setCell ⟨B, 1, none⟩ y').setCell ⟨B, 2, none⟩ z').setCell ⟨B, 3, none⟩ u') B x' y' z' u' := by
  have h3 : (((w.setCell ⟨B, 0, none⟩ x').setCell ⟨B, 1, none⟩ y').setCell ⟨B, 2, none⟩ z').cell? ⟨B, 3, none⟩ = some u := by
    rw [World.cell?_setCell_other _ _ _ _ (by simp), World.cell?_setCell_other _ _ _ _ (by simp), World.cell?_setCell_other _ _ _ _ (by simp)]
    exact h.c3
  have hs := set3 h.c0 h.c1 h.c2 x' y' z'
  refine ⟨?_, ?_, ?_, World.cell?_setCell_same _ _ _ h3, by simpa using h.lt⟩
  · rw [World.cell?_setCell_other _ _ _ _ (by simp)]; exact hs.1
  · rw [World.cell?_setCell_other _ _ _ _ (by simp)]; exact hs.2.1
  · rw [World.cell?_setCell_other _ _ _ _ (by simp)]; exact hs.2.2.1
theorem Fz.set3 {w : World} {B : Nat} (h : Fz w B) (p q r : Addr) (a b c : Value) : Fz (((w.setCell p a).setCell q b).setCell r c) B := ((h.set _ _).set _ _).set _ _
/-- A cell that somebody else owns. -/
def At (w : World) (p : Addr) (v : Value) : Prop := w.cell? p = some v ∧ p.block < w.heap.size
theorem At.kp {w w' : World} {p : Addr} {v : Value} (h : At w p v) (k : Kp w.heap.size w w') : At w' p v := ⟨(k.cell h.2).trans h.1, Nat.lt_of_lt_of_le h.2 k.size⟩
theorem At.alloc {w : World} {p : Addr} {v : Value} (h : At w p v) (o : Obj) : At (w.alloc o) p v := h.kp ((Kp.refl _ _).alloc (Nat.le_refl _) o)
theorem At.drew {w : World} {p : Addr} {v : Value} (h : At w p v) : At w.drew p v := h.kp ((Kp.refl _ _).drewN 1)
theorem At.far {w : World} {p : Addr} {v : Value} (h : At w p v) {q : Addr} (hq : q.block ≠ p.block) (u : Value) : At (w.setCell q u) p v := ⟨(World.cell?_setCell_far _ _ _ _ hq).trans h.1, by simpa using h.2⟩
theorem At.far3 {w : World} {p : Addr} {v : Value} (h : At w p v) {B : Nat} (hq : B ≠ p.block) (a b c : Value) : At (((w.setCell ⟨B, 0, none⟩ a).setCell ⟨B, 1, none⟩ b).setCell ⟨B, 2, none⟩ c) p v :=
  ((h.far (q := ⟨B, 0, none⟩) hq _).far (q := ⟨B, 1, none⟩) hq _).far (q := ⟨B, 2, none⟩) hq _
theorem At.far4 {w : World} {p : Addr} {v : Value} (h : At w p v) {B : Nat} (hq : B ≠ p.block) (a b c d : Value) : At ((((w.setCell ⟨B, 0, none⟩ a).setCell ⟨B, 1, none⟩ b).setCell ⟨B, 2, none⟩ c).setCell ⟨B, 3, none⟩ d) p v :=
  (h.far3 hq a b c).far (q := ⟨B, 3, none⟩) hq _
theorem GrewS.set3 {V w : World} (h : GrewS V w) {B : Nat} (hB : V.heap.size ≤ B) (a b c : Value) : GrewS V (((w.setCell ⟨B, 0, none⟩ a).setCell ⟨B, 1, none⟩ b).setCell ⟨B, 2, none⟩ c) :=
  ((h.setCell (a := ⟨B, 0, none⟩) hB _).setCell (a := ⟨B, 1, none⟩) hB _).setCell (a := ⟨B, 2, none⟩) hB _
theorem GrewS.set4 {V w : World} (h : GrewS V w) {B : Nat} (hB : V.heap.size ≤ B) (a b c d : Value) : GrewS V ((((w.setCell ⟨B, 0, none⟩ a).setCell ⟨B, 1, none⟩ b).setCell ⟨B, 2, none⟩ c).setCell ⟨B, 3, none⟩ d) :=
  (h.set3 hB a b c).setCell (a := ⟨B, 3, none⟩) hB _
end Go.Proofs.Yticgdfbknaholaa

namespace Go.Proofs.Yticgdfbknaholaa

theorem C4.far4 {w : World} {B p : Nat} {x y z u : Value} (h : C4 w B x y z u) (hp : p ≠ B) (a b c d : Value) : C4 ((((w.setCell ⟨p, 0, none⟩ a).setCell ⟨p, 1, none⟩ b).setCell ⟨p, 2, none⟩ c).setCell ⟨p, 3, none⟩ d) B x y z u :=
  (h.far3 hp a b c).far (p := ⟨p, 3, none⟩) hp _
/-- Two cells of one block. -/
structure C2 (w : World) (B : Nat) (x y : Value) : Prop where
  c0 : w.cell? ⟨B, 0, none⟩ = some x
  c1 : w.cell? ⟨B, 1, none⟩ = some y
  lt : B < w.heap.size
theorem C2.kp {w w' : World} {B : Nat} {x y : Value} (h : C2 w B x y) (k : Kp w.heap.size w w') : C2 w' B x y :=
  ⟨(k.cell (p := ⟨B, 0, none⟩) h.lt).trans h.c0, (k.cell (p := ⟨B, 1, none⟩) h.lt).trans h.c1, Nat.lt_of_lt_of_le h.lt k.size⟩
theorem C2.alloc {w : World} {B : Nat} {x y : Value} (h : C2 w B x y) (o : Obj) : C2 (w.alloc o) B x y := h.kp ((Kp.refl _ _).alloc (Nat.le_refl _) o)
theorem C2.drewN {w : World} {B : Nat} {x y : Value} (h : C2 w B x y) (n : Nat) : C2 (w.drewN n) B x y := h.kp ((Kp.refl _ _).drewN n)
theorem C2.drew {w : World} {B : Nat} {x y : Value} (h : C2 w B x y) : C2 w.drew B x y := h.drewN 1
theorem C2.new (w : World) (x y : Value) (t : TypeId) : C2 (w.alloc (.cells #[x, y] t)) w.heap.size x y := ⟨by simp, by simp, by simp⟩
theorem C2.far {w : World} {B : Nat} {x y : Value} (h : C2 w B x y) {p : Addr} (hp : p.block ≠ B) (u : Value) : C2 (w.setCell p u) B x y :=
  ⟨(World.cell?_setCell_far _ _ _ _ hp).trans h.c0, (World.cell?_setCell_far _ _ _ _ hp).trans h.c1, by simpa using h.lt⟩
theorem C2.far3 {w : World} {B p : Nat} {x y : Value} (h : C2 w B x y) (hp : p ≠ B) (a b c : Value) : C2 (((w.setCell ⟨p, 0, none⟩ a).setCell ⟨p, 1, none⟩ b).setCell ⟨p, 2, none⟩ c) B x y :=
  ((h.far (p := ⟨p, 0, none⟩) hp _).far (p := ⟨p, 1, none⟩) hp _).far (p := ⟨p, 2, none⟩) hp _
theorem C2.far4 {w : World} {B p : Nat} {x y : Value} (h : C2 w B x y) (hp : p ≠ B) (a b c d : Value) : C2 ((((w.setCell ⟨p, 0, none⟩ a).setCell ⟨p, 1, none⟩ b).setCell ⟨p, 2, none⟩ c).setCell ⟨p, 3, none⟩ d) B x y :=
  (h.far3 hp a b c).far (p := ⟨p, 3, none⟩) hp _
theorem At.drewN {w : World} {p : Addr} {v : Value} (h : At w p v) (n : Nat) : At (w.drewN n) p v := h.kp ((Kp.refl _ _).drewN n)
theorem C2.set {w : World} {B : Nat} {x y : Value} (h : C2 w B x y) (x' y' : Value) : C2 ((w.setCell ⟨B, 0, none⟩ x').setCell ⟨B, 1, none⟩ y') B x' y' := by
  refine ⟨?_, ?_, by simpa using h.lt⟩
  · rw [World.cell?_setCell_other _ _ _ _ (by simp)]
    exact World.cell?_setCell_same _ _ _ h.c0
  · exact World.cell?_setCell_same _ _ _ ((World.cell?_setCell_other _ _ _ _ (by simp)).trans h.c1)
theorem C2.far2 {w : World} {B p : Nat} {x y : Value} (h : C2 w B x y) (hp : p ≠ B) (a b : Value) : C2 ((w.setCell ⟨p, 0, none⟩ a).setCell ⟨p, 1, none⟩ b) B x y :=
  (h.far (p := ⟨p, 0, none⟩) hp _).far (p := ⟨p, 1, none⟩) hp _
theorem GrewS.set2 {V w : World} (h : GrewS V w) {B : Nat} (hB : V.heap.size ≤ B) (a b : Value) : GrewS V ((w.setCell ⟨B, 0, none⟩ a).setCell ⟨B, 1, none⟩ b) :=
  (h.setCell (a := ⟨B, 0, none⟩) hB _).setCell (a := ⟨B, 1, none⟩) hB _
end Go.Proofs.Yticgdfbknaholaa

namespace Go.Proofs.Yticgdfbknaholaa
variable {P : Program} {ops : Array Oper} {Q : Exit → Act → World → Prop} {md : Region.Mode} {S : World → Prop} {n : Nat}

/-- Each operation from n on waits for number i by an edge of its own. -/
def directB (md : Region.Mode) (ops : Array Oper) (n i : Nat) : Bool :=
  (List.range ops.size).all fun t => decide (t < n) || ((ops[t]?).map fun o => o.after.any fun e => Region.binds md e && e.on == i).getD true
theorem directB_spec {i : Nat} (h : directB md ops n i = true) {got : Array Bool} (hun : got.getD i true = false) {j : Nat} (hj : j ∈ Region.ready md ops got) (_ : j ≠ i) : j < n := by
  obtain ⟨_, oj, hoj, hall⟩ := mem_ready.1 hj
  have hlt : j < ops.size := (Array.getElem?_eq_some_iff.1 hoj).1
  have h := List.all_eq_true.1 h j (List.mem_range.2 hlt)
  rw [hoj] at h
  simp only [Option.map_some, Option.getD_some, Bool.or_eq_true, decide_eq_true_eq] at h
  rcases h with h | h
  · exact h
  · obtain ⟨e, he, h2⟩ := Array.any_eq_true'.1 h
    simp only [Bool.and_eq_true, beq_iff_eq] at h2
    have h3 := hall e he h2.1
    rw [h2.2, getD_both hun] at h3
    cases h3

theorem anyN_firstD {i : Nat} {oi : Oper} {v : Value} (hi : ops[i]? = some oi) (hsel : ∀ (j : Nat) (o : Oper) cs b, ops[j]? = some o → o.op ≠ .select cs b)
    (hQ : ∀ c a w, Q (.panic c) (a.put oi.dst v) w → Q (.panic c) a w) (hd : directB md ops n i = true) :
    ∀ (k : Nat) (got : Array Bool) (a : Act) (w : World),
      (∀ j oj, ops[j]? = some oj → j ≠ i → got.getD j true = false → (∀ e ∈ oj.after, Region.binds md e = true → e.on ≠ i) → oi.apart ops oj = true) →
      i ∈ Region.ready md ops got → YieldsIf P ops S oi v a → S w →
      anyN P md ops Q S n k (got.setIfInBounds i true) (a.put oi.dst v) w → anyN P md ops Q S n (k + 1) got a w
  | k, got, a, w, hfree, hr, hy, hS, H => by
    refine ⟨fun h0 => (by rw [h0] at hr; cases hr), fun j hj => ?_⟩
    by_cases hji : j = i
    · cases hji; exact hy.wpOp hi hS ⟨fun _ => hS, H⟩
    have hun := (mem_ready.1 hr).1
    have hjn : j < n := directB_spec hd hun hj hji
    have hj2 := ready_mono hj hji
    cases k with
    | zero => rw [H.1] at hj2; cases hj2
    | succ k =>
      obtain ⟨hjun, oj, hoj, hall⟩ := mem_ready.1 hj
      have hnot : ∀ e ∈ oj.after, Region.binds md e = true → e.on ≠ i := fun e he hb heq => by
        have h1 := hall e he hb
        rw [heq, getD_both hun] at h1
        cases h1
      have h2 := wpOp_putIf hoj (hfree j oj hoj hji hjun hnot) (fun cs b => hsel i oi cs b hi) (fun cs b => hsel j oj cs b hoj) hQ hy (H.2 j hj2)
      refine wpOp_mono (fun a' w' h3 => ⟨h3.2.1, ?_⟩) h2
      refine anyN_firstD hi hsel hQ hd k (got.setIfInBounds j true) a' w' (fun l ol hl hli hlun hno => ?_) (ready_mono hr (Ne.symm hji)) h3.1 (h3.2.1 hjn) ?_
      · refine hfree l ol hl hli ?_ hno
        by_cases hjl : j = l
        · cases hjl; exact hjun
        · rwa [getD_set_ne true hjl] at hlun
      · rw [Array.setIfInBounds_comm _ _ hji]
        exact h3.2.2

/-- Take number i first: what comes from n on waits for it. -/
theorem anyN_takeD (i : Nat) {l : List Oper} {more : List Oper} {oi : Oper} {v : Value} {k : Nat} {got : Array Bool} {a : Act} {w : World} (hi : l.drop i = oi :: more)
    (hs : Region.noSelect l.toArray = true) (hd : directB md l.toArray n i = true) (hf : Region.free md l.toArray got i = true) (hr : (Region.ready md l.toArray got).contains i = true)
    (hQ : ∀ c a w, Q (.panic c) (a.put oi.dst v) w → Q (.panic c) a w) (hy : YieldsIf P l.toArray S oi v a) (hS : S w)
    (h : anyN P md l.toArray Q S n k (got.setIfInBounds i true) (a.put oi.dst v) w) : anyN P md l.toArray Q S n (k + 1) got a w := by
  have hi' : l.toArray[i]? = some oi := by
    have h0 : (l.drop i)[0]? = some oi := by rw [hi]; rfl
    rw [List.getElem?_drop] at h0
    simpa using h0
  exact anyN_firstD hi' (Region.noSelect_spec hs) hQ hd k got a w (Region.free_spec hi' hf) (by simpa using hr) hy hS h
end Go.Proofs.Yticgdfbknaholaa

namespace Go.Proofs.Yticgdfbknaholaa
variable {P : Program} {ops : Array Oper} {Q : Exit → Act → World → Prop} {md : Region.Mode} {S : World → Prop} {n : Nat}

/-- Number t waits for number i, by one edge or through others. -/
def reachB (md : Region.Mode) (ops : Array Oper) : Nat → Nat → Nat → Bool
  | 0, _, _ => false
  | f + 1, t, i => ((ops[t]?).map fun o => o.after.any fun e => Region.binds md e && (e.on == i || reachB md ops f e.on i)).getD false
/-- What has come up is closed. -/
def closedB (md : Region.Mode) (ops : Array Oper) (got : Array Bool) : Bool :=
  (List.range ops.size).all fun j => !got.getD j false || ((ops[j]?).map fun o => o.after.all fun e => !Region.binds md e || got.getD e.on false).getD true
def Closed (md : Region.Mode) (ops : Array Oper) (got : Array Bool) : Prop :=
  ∀ j oj, ops[j]? = some oj → got.getD j false = true → ∀ e ∈ oj.after, Region.binds md e = true → got.getD e.on false = true
theorem closedB_spec {got : Array Bool} (h : closedB md ops got = true) : Closed md ops got := by
  intro j o ho hg e he hb
  have hj : j < ops.size := (Array.getElem?_eq_some_iff.1 ho).1
  have h := List.all_eq_true.1 h j (List.mem_range.2 hj)
  rw [hg, ho] at h
  simp only [Bool.not_true, Bool.false_or, Option.map_some, Option.getD_some] at h
  have h := Array.all_eq_true'.1 h e he
  rw [hb] at h
  simpa using h
theorem reachB_got {got : Array Bool} (hc : Closed md ops got) {i : Nat} : ∀ (f t : Nat) (ot : Oper), ops[t]? = some ot → (∀ e ∈ ot.after, Region.binds md e = true → got.getD e.on false = true) → reachB md ops f t i = true → got.getD i false = true
  | 0, _, _, _, _, h => by cases h
  | f + 1, t, ot, ht, ha, h => by
    unfold reachB at h
    rw [ht] at h
    simp only [Option.map_some, Option.getD_some] at h
    obtain ⟨e, he, h2⟩ := Array.any_eq_true'.1 h
    simp only [Bool.and_eq_true, Bool.or_eq_true, beq_iff_eq] at h2
    have hg := ha e he h2.1
    rcases h2.2 with h3 | h3
    · rwa [h3] at hg
    · cases f with
      | zero => cases h3
      | succ f =>
        cases ho : ops[e.on]? with
        | none => unfold reachB at h3; rw [ho] at h3; cases h3
        | some oe => exact reachB_got hc (f + 1) e.on oe ho (hc e.on oe ho hg) h3
theorem Closed.set {got : Array Bool} {j : Nat} (hc : Closed md ops got) (hj : j ∈ Region.ready md ops got) (_ : got.size = ops.size) : Closed md ops (got.setIfInBounds j true) := by
  obtain ⟨_, oi, hoi, hall⟩ := mem_ready.1 hj
  intro l ol hl hgl e he hb
  by_cases hij : j = l
  · subst hij
    have : ol = oi := Option.some.inj (hl.symm.trans hoi)
    subst this
    exact getD_set_true (hall e he hb)
  · rw [getD_set_ne false hij] at hgl
    exact getD_set_true (hc l ol hl hgl e he hb)
def lateB (md : Region.Mode) (ops : Array Oper) (n i : Nat) : Bool := (List.range ops.size).all fun t => decide (t < n) || reachB md ops ops.size t i

theorem anyN_firstR {i : Nat} {oi : Oper} {v : Value} (hi : ops[i]? = some oi) (hsel : ∀ (j : Nat) (o : Oper) cs b, ops[j]? = some o → o.op ≠ .select cs b)
    (hQ : ∀ c a w, Q (.panic c) (a.put oi.dst v) w → Q (.panic c) a w) (hd : lateB md ops n i = true) :
    ∀ (k : Nat) (got : Array Bool) (a : Act) (w : World), Closed md ops got → got.size = ops.size →
      (∀ j oj, ops[j]? = some oj → j ≠ i → got.getD j true = false → (∀ e ∈ oj.after, Region.binds md e = true → e.on ≠ i) → oi.apart ops oj = true) →
      i ∈ Region.ready md ops got → YieldsIf P ops S oi v a → S w →
      anyN P md ops Q S n k (got.setIfInBounds i true) (a.put oi.dst v) w → anyN P md ops Q S n (k + 1) got a w
  | k, got, a, w, hc, hs, hfree, hr, hy, hS, H => by
    refine ⟨fun h0 => (by rw [h0] at hr; cases hr), fun j hj => ?_⟩
    by_cases hji : j = i
    · cases hji; exact hy.wpOp hi hS ⟨fun _ => hS, H⟩
    have hun := (mem_ready.1 hr).1
    have hjn : j < n := by
      obtain ⟨_, oj, hoj, hall⟩ := mem_ready.1 hj
      have hlt : j < ops.size := (Array.getElem?_eq_some_iff.1 hoj).1
      have h := List.all_eq_true.1 hd j (List.mem_range.2 hlt)
      rw [Bool.or_eq_true, decide_eq_true_eq] at h
      rcases h with h | h
      · exact h
      · have := reachB_got hc _ j oj hoj hall h
        rw [getD_both hun] at this
        cases this
    have hj2 := ready_mono hj hji
    cases k with
    | zero => rw [H.1] at hj2; cases hj2
    | succ k =>
      obtain ⟨hjun, oj, hoj, hall⟩ := mem_ready.1 hj
      have hnot : ∀ e ∈ oj.after, Region.binds md e = true → e.on ≠ i := fun e he hb heq => by
        have h1 := hall e he hb
        rw [heq, getD_both hun] at h1
        cases h1
      have h2 := wpOp_putIf hoj (hfree j oj hoj hji hjun hnot) (fun cs b => hsel i oi cs b hi) (fun cs b => hsel j oj cs b hoj) hQ hy (H.2 j hj2)
      refine wpOp_mono (fun a' w' h3 => ⟨h3.2.1, ?_⟩) h2
      refine anyN_firstR hi hsel hQ hd k (got.setIfInBounds j true) a' w' (hc.set hj hs) (by simpa using hs) (fun l ol hl hli hlun hno => ?_) (ready_mono hr (Ne.symm hji)) h3.1 (h3.2.1 hjn) ?_
      · refine hfree l ol hl hli ?_ hno
        by_cases hjl : j = l
        · cases hjl; exact hjun
        · rwa [getD_set_ne true hjl] at hlun
      · rw [Array.setIfInBounds_comm _ _ hji]
        exact h3.2.2

/-- Take number i first: what comes from n on waits for it, by one edge or through others. -/
theorem anyN_takeR (i : Nat) {l : List Oper} {more : List Oper} {oi : Oper} {v : Value} {k : Nat} {got : Array Bool} {a : Act} {w : World} (hi : l.drop i = oi :: more)
    (hs : Region.noSelect l.toArray = true) (hd : (lateB md l.toArray n i && closedB md l.toArray got && got.size == l.toArray.size) = true) (hf : Region.free md l.toArray got i = true) (hr : (Region.ready md l.toArray got).contains i = true)
    (hQ : ∀ c a w, Q (.panic c) (a.put oi.dst v) w → Q (.panic c) a w) (hy : YieldsIf P l.toArray S oi v a) (hS : S w)
    (h : anyN P md l.toArray Q S n k (got.setIfInBounds i true) (a.put oi.dst v) w) : anyN P md l.toArray Q S n (k + 1) got a w := by
  have hi' : l.toArray[i]? = some oi := by
    have h0 : (l.drop i)[0]? = some oi := by rw [hi]; rfl
    rw [List.getElem?_drop] at h0
    simpa using h0
  rw [Bool.and_eq_true, Bool.and_eq_true, beq_iff_eq] at hd
  exact anyN_firstR hi' (Region.noSelect_spec hs) hQ hd.1.1 k got a w (closedB_spec hd.1.2) hd.2 (Region.free_spec hi' hf) (by simpa using hr) hy hS h
end Go.Proofs.Yticgdfbknaholaa

namespace Go.Proofs.Yticgdfbknaholaa
theorem At.new (w : World) (v : Value) (t : TypeId) : At (w.alloc (.cells #[v] t)) ⟨w.heap.size, 0, none⟩ v := ⟨by simp, by simp⟩
variable {P : Program} {ops : Array Oper} {Q : Exit → Act → World → Prop} {md : Region.Mode} {S : World → Prop} {n : Nat}

/-- Number i is the only one that may come up, and it is wanted. -/
theorem anyN_oneG (i : Nat) {l : List Oper} {more : List Oper} {oi : Oper} {k : Nat} {got : Array Bool} {a : Act} {w : World} (hi : l.drop i = oi :: more)
    (hr : Region.ready md l.toArray got = [i]) (hg : Region.wanted oi (yielded l.toArray a.tmps) = true)
    (h : oi.wp P a w (fun a' w' => (i < n → S w') ∧ anyN P md l.toArray Q S n k (got.setIfInBounds i true) a' w') Q) : anyN P md l.toArray Q S n (k + 1) got a w := by
  have hi' : l.toArray[i]? = some oi := by
    have h0 : (l.drop i)[0]? = some oi := by rw [hi]; rfl
    rw [List.getElem?_drop] at h0
    simpa using h0
  refine ⟨fun h0 => (by rw [hr] at h0; cases h0), fun j hj => ?_⟩
  rw [hr] at hj
  have hj : j = i := by simpa using hj
  subst hj
  unfold wpOp
  simp only [hi']
  rw [if_pos hg]
  exact .inl h
end Go.Proofs.Yticgdfbknaholaa

