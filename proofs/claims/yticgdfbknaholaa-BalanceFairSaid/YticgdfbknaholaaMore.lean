/-
  Small words on worlds that have only grown: 'w.more os': w, and behind it the blocks os.
-/
import Derived.Test.YticgdfbknaholaaBase
namespace Go

def World.more (w : World) (os : List Obj) : World := os.foldl World.alloc w

theorem World.more_heap : ∀ (os : List Obj) (w : World), (w.more os).heap.toList = w.heap.toList ++ os
  | [], w => by simp [World.more]
  | o :: os, w => by
    have h := World.more_heap os (w.alloc o)
    have e : (w.alloc o).heap.toList = w.heap.toList ++ [o] := by
      show (w.heap.push o).toList = _
      simp
    show ((w.alloc o).more os).heap.toList = _
    rw [h, e, List.append_assoc]
    rfl
@[simp, go_sem] theorem World.more_size (w : World) (os : List Obj) : (w.more os).heap.size = w.heap.size + os.length := by
  have h := congrArg List.length (World.more_heap os w)
  simpa using h
theorem World.more_block (w : World) (os : List Obj) (k : Nat) (h : k < w.heap.size) : (w.more os).heap[k]? = w.heap[k]? := by
  rw [← Array.getElem?_toList, World.more_heap, List.getElem?_append_left (by simpa using h), Array.getElem?_toList]
@[simp, go_sem] theorem World.cell?_more (w : World) (os : List Obj) (a : Addr) (h : a.block < w.heap.size) : (w.more os).cell? a = w.cell? a :=
  World.cell?_of_block (w.more_block os a.block h)
@[simp, go_sem] theorem World.frozen?_more (w : World) (os : List Obj) (a : Addr) (h : a.block < w.heap.size) : (w.more os).frozen? a = w.frozen? a :=
  World.frozen?_of_block (w.more_block os a.block h)
theorem World.more_os : ∀ (os : List Obj) (w : World), (w.more os).os = w.os ∧ (w.more os).output = w.output
  | [], _ => ⟨rfl, rfl⟩
  | o :: os, w => World.more_os os (w.alloc o)
theorem World.alloc_more (w : World) (o : Obj) : w.alloc o = w.more [o] := rfl
theorem World.more_alloc (w : World) (os : List Obj) (o : Obj) : (w.more os).alloc o = w.more (os ++ [o]) := by
  unfold World.more
  rw [List.foldl_append]
  rfl
theorem World.more_more (w : World) (os us : List Obj) : (w.more os).more us = w.more (os ++ us) := by
  unfold World.more
  rw [List.foldl_append]
theorem World.drewN_more : ∀ (os : List Obj) (w : World) (n : Nat), (w.drewN n).more os = (w.more os).drewN n
  | [], _, _ => rfl
  | o :: os, w, n => World.drewN_more os (w.alloc o) n
theorem World.more_rest : ∀ (os : List Obj) (w : World), (w.more os).tape = w.tape ∧ (w.more os).drawn = w.drawn ∧ (w.more os).os = w.os ∧ (w.more os).output = w.output
  | [], _ => ⟨rfl, rfl, rfl, rfl⟩
  | o :: os, w => World.more_rest os (w.alloc o)
end Go
namespace Go.Proofs.Yticgdfbknaholaa
open Go.RowKit
theorem Kp.more {B : Nat} {a w : World} (h : Kp B a w) (hB : B ≤ w.heap.size) (os : List Obj) : Kp B a (w.more os) :=
  h.trans ⟨(World.more_os os w).1, (World.more_os os w).2, by simp, fun k hk => World.more_block w os k (by omega)⟩

/-- n blocks more, and draws. -/
def Grew (n : Nat) (w w' : World) : Prop := ∃ (os : List Obj) (m : Nat), os.length = n ∧ w' = (w.more os).drewN m
theorem Grew.zero (w : World) : Grew 0 w w := ⟨[], 0, rfl, rfl⟩
theorem Grew.alloc {n : Nat} {w w' : World} (h : Grew n w w') (o : Obj) : Grew (n + 1) w (w'.alloc o) := by
  obtain ⟨os, m, hl, rfl⟩ := h
  refine ⟨os ++ [o], m, by simp [hl], ?_⟩
  rw [← World.more_alloc]
  rfl
theorem Grew.more {n k : Nat} {w w' : World} {us : List Obj} (h : Grew n w w') (hu : us.length = k) : Grew (n + k) w (w'.more us) := by
  obtain ⟨os, m, hl, rfl⟩ := h
  refine ⟨os ++ us, m, by simp [hl, hu], ?_⟩
  rw [← World.more_more, World.drewN_more]
theorem Grew.drewN {n : Nat} {w w' : World} (h : Grew n w w') (k : Nat) : Grew n w (w'.drewN k) := by
  obtain ⟨os, m, hl, rfl⟩ := h
  exact ⟨os, m + k, hl, by rw [World.drewN_drewN]⟩
theorem Grew.trans {n k : Nat} {a b c : World} (h : Grew n a b) (h' : Grew k b c) : Grew (n + k) a c := by
  obtain ⟨us, m, hu, rfl⟩ := h'
  exact (h.more hu).drewN m
theorem Grew.size {n : Nat} {w w' : World} (h : Grew n w w') : w'.heap.size = w.heap.size + n := by
  obtain ⟨os, m, hl, rfl⟩ := h
  simp [hl]
theorem world_ext {x y : World} (h1 : x.heap = y.heap) (h2 : x.tape = y.tape) (h3 : x.drawn = y.drawn) (h4 : x.os = y.os) (h5 : x.output = y.output) : x = y := by
  cases x; cases y
  simp_all
theorem Grew.setCell {n : Nat} {w w' : World} (h : Grew n w w') {a : Addr} (ha : w.heap.size ≤ a.block) (v : Value) : Grew n w (w'.setCell a v) := by
  obtain ⟨os, m, hl, rfl⟩ := h
  have e : (((w.more os).drewN m).setCell a v).heap.toList = w.heap.toList ++ ((((w.more os).drewN m).setCell a v).heap.toList.drop w.heap.size) := by
    apply List.ext_getElem?
    intro i
    rcases Nat.lt_or_ge i w.heap.size with hi | hi
    · rw [List.getElem?_append_left (by simpa using hi), Array.getElem?_toList, Below.heap_setCell _ _ _ _ (by omega), Array.getElem?_toList]
      exact World.more_block w os i hi
    · rw [List.getElem?_append_right (by simpa using hi), List.getElem?_drop]
      congr 1
      simp
      omega
  have hs : (((w.more os).drewN m).setCell a v).heap.size = w.heap.size + n := by simp [World.setCell, hl]
  refine ⟨(((w.more os).drewN m).setCell a v).heap.toList.drop w.heap.size, m, by simp [hs], ?_⟩
  have e3 := World.more_rest ((((w.more os).drewN m).setCell a v).heap.toList.drop w.heap.size) w
  have e4 := World.more_rest os w
  refine world_ext ?_ ?_ ?_ ?_ ?_
  · apply Array.toList_inj.1
    exact e.trans (World.more_heap _ w).symm
  · exact e4.1.trans e3.1.symm
  · show (w.more os).drawn + m = (w.more _).drawn + m
    rw [e3.2.1, e4.2.1]
  · exact e4.2.2.1.trans e3.2.2.1.symm
  · exact e4.2.2.2.trans e3.2.2.2.symm
/-- Some blocks more, and draws. -/
def GrewS (w w' : World) : Prop := ∃ n, Grew n w w'
theorem Grew.s {n : Nat} {w w' : World} (h : Grew n w w') : GrewS w w' := ⟨n, h⟩
theorem GrewS.refl (w : World) : GrewS w w := ⟨0, Grew.zero w⟩
theorem GrewS.trans {a b c : World} (h : GrewS a b) (h' : GrewS b c) : GrewS a c := by
  obtain ⟨n, h⟩ := h
  obtain ⟨k, h'⟩ := h'
  exact ⟨_, h.trans h'⟩
theorem GrewS.alloc {w w' : World} (h : GrewS w w') (o : Obj) : GrewS w (w'.alloc o) := by
  obtain ⟨n, h⟩ := h
  exact ⟨_, h.alloc o⟩
theorem GrewS.drewN {w w' : World} (h : GrewS w w') (k : Nat) : GrewS w (w'.drewN k) := by
  obtain ⟨n, h⟩ := h
  exact ⟨_, h.drewN k⟩
theorem GrewS.drew {w w' : World} (h : GrewS w w') : GrewS w w'.drew := h.drewN 1
theorem GrewS.more {w w' : World} (h : GrewS w w') (os : List Obj) : GrewS w (w'.more os) := by
  obtain ⟨n, h⟩ := h
  exact ⟨_, h.more rfl⟩
theorem GrewS.setCell {w w' : World} (h : GrewS w w') {a : Addr} (ha : w.heap.size ≤ a.block) (v : Value) : GrewS w (w'.setCell a v) := by
  obtain ⟨n, h⟩ := h
  exact ⟨_, h.setCell ha v⟩
theorem Grew.kp {n : Nat} {w w' : World} (h : Grew n w w') : Kp w.heap.size w w' := by
  obtain ⟨os, m, _, rfl⟩ := h
  exact ((Kp.refl _ _).more (Nat.le_refl _) os).drewN m
theorem GrewS.kp {w w' : World} (h : GrewS w w') : Kp w.heap.size w w' := by
  obtain ⟨n, h⟩ := h
  exact h.kp
end Go.Proofs.Yticgdfbknaholaa
